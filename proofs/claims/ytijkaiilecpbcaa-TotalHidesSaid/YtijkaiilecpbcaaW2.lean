/-
The walk of total.Sound.
-/
import Derived.Test.YtijkaiilecpbcaaW1
import Derived.Deep.RegionHeld3
namespace Go.Proofs.Ytijkaiilecpbcaa
open Go.RowKit
namespace K
/-- Two items of a list that another one is the sum of. -/
def sums (l : List It) (x : It) : Bool := match l[x.lt.toNat]?, l[x.rt.toNat]? with
  | some a, some b => (x.val == a.val + b.val) && (x.bl == a.bl + b.bl)
  | _, _ => false
def okAt (l : List It) (i : Nat) (x : It) : Bool :=
  btw x.val 0 1125899906842624 && (btw x.bl 0 1125899906842624 && (if leafy x then decide (x.bl ≤ 1099511627776) else has i x.lt && (has i x.rt && sums l x)))
def soundFrom (l : List It) : Nat → List It → Bool
  | _, [] => true
  | i, x :: r => okAt l i x && soundFrom l (i + 1) r
def sound (l : List It) : Bool := soundFrom l 0 l && decide (l.length ≤ 1000)
end K

theorem K.sound_drop {l : List It} {k : Nat} {x : It} (h : l[k]? = some x) : K.soundFrom l k (l.drop k) = (K.okAt l k x && K.soundFrom l (k + 1) (l.drop (k + 1))) := by
  obtain ⟨hk, e⟩ := List.getElem?_eq_some_iff.1 h
  rw [List.drop_eq_getElem_cons hk, e]
  rfl

theorem K.ok_val {l : List It} {k : Nat} {x : It} (h : ¬ (0 ≤ x.val ∧ x.val ≤ 1125899906842624)) : K.okAt l k x = false := by simp [K.okAt, K.btw]; omega
theorem K.ok_bl {l : List It} {k : Nat} {x : It} (h : ¬ (0 ≤ x.bl ∧ x.bl ≤ 1125899906842624)) : K.okAt l k x = false := by simp [K.okAt, K.btw]; omega
theorem K.ok_leaf {l : List It} {k : Nat} {x : It} (h1 : 0 ≤ x.val ∧ x.val ≤ 1125899906842624) (h2 : 0 ≤ x.bl ∧ x.bl ≤ 1125899906842624) (h : K.leafy x = true) : K.okAt l k x = decide (x.bl ≤ 1099511627776) := by simp [K.okAt, K.btw, h1, h2, h]
theorem K.ok_sum {l : List It} {k : Nat} {x : It} (h1 : 0 ≤ x.val ∧ x.val ≤ 1125899906842624) (h2 : 0 ≤ x.bl ∧ x.bl ≤ 1125899906842624) (h : K.leafy x = false) : K.okAt l k x = (K.has k x.lt && (K.has k x.rt && K.sums l x)) := by simp [K.okAt, K.btw, h1, h2, h]
theorem K.has_no {n : Nat} {i : Int} (h : ¬ (0 ≤ i ∧ i < n)) : K.has n i = false := by simp [K.has, K.btw]; omega
theorem K.has_iff {n : Nat} {i : Int} : K.has n i = true ↔ 0 ≤ i ∧ i < n := by simp [K.has, K.btw]; omega

/-- Value and blind are amounts. -/
def K.amounts (a : It) : Prop := (0 ≤ a.val ∧ a.val ≤ 1125899906842624) ∧ (0 ≤ a.bl ∧ a.bl ≤ 1125899906842624)
def K.upTo (l : List It) (k : Nat) : Prop := ∀ (i : Nat) (a : It), i < k → l[i]? = some a → K.amounts a
theorem K.upTo_next {l : List It} {k : Nat} {x : It} (h : K.upTo l k) (hx : l[k]? = some x) (ha : K.amounts x) : K.upTo l (k + 1) := by
  intro i a hi hia
  by_cases e : i = k
  · subst e; rw [hx] at hia; injection hia with hia; subst hia; exact ha
  · exact h i a (by omega) hia

set_option maxRecDepth 100000 in
set_option maxHeartbeats 8000000 in
theorem sound_any (A : Option Addr) (n c : Nat) (l : List It) (w : World) (hl : Items w A n l) (hn : n ≤ 1000000000000) : Calls Try.prog 10 #[.agg #[.slice A n c]] w fun e w' => e = .returned (.bool (K.sound l)) ∧ Below w.heap.size w w' := by
  have b0 := (Below.refl w.heap.size w).alloc (Nat.le_refl _) (.cells #[.slice A n c] 24)
  have hP0 := (MapKept.heap_alloc w (.cells #[.slice A n c] 24)).1
  go_enter Try.func10, Try.ntmps10
  go_wp2_with fail
  obtain ⟨w0, hw0⟩ : ∃ w0, w0 = w.alloc (.cells #[.slice A n c] 24) := ⟨_, rfl⟩
  rw [← hw0] at b0 hP0 ⊢
  clear hw0
  go_loopw [10] (fun vi wr => ∃ k : Nat, vi = .int .i64 k ∧ k ≤ n ∧ Hid (K.soundFrom l 0 l = K.soundFrom l k (l.drop k)) ∧ Hid (K.upTo l k) ∧ Below w0.heap.size w0 wr) (fun vi _ => n - (intOf vi).toNat)
  case atStart => exact ⟨0, rfl, by omega, by show _ = _; rfl, fun i a h => absurd h (by omega), Below.refl _ _⟩
  case round =>
    obtain ⟨k, rfl, hk, hr, hup, hbr⟩ := hrel
    have hb := b0.trans (hbr.mono b0.size)
    have hP := blk_below hbr hP0
    have p0 := blk_cell hP 0 _ rfl
    by_cases hlt : k < n
    · obtain ⟨ad, x, rfl, hx, c0, c1, c2, c3⟩ := Items.at_ (hl.below hb) hlt
      have HS := Lib.hid (K.sound_drop hx)
      have HUP := Lib.hid (fun h => K.upTo_next hup.out hx h)
      have HK := Lib.hid (show K.soundFrom l 0 l = true → K.sound l = decide (l.length ≤ 1000) by intro h; simp [K.sound, h])
      have HB := (MapKept.heap_alloc wr (.cells #[.int .i64 x.val, .int .i64 x.bl, .int .i64 x.lt, .int .i64 x.rt] 37)).1
      have ba := (Below.refl wr.heap.size wr).alloc (Nat.le_refl _) (.cells #[.int .i64 x.val, .int .i64 x.bl, .int .i64 x.lt, .int .i64 x.rt] 37)
      have sa := World.size_alloc wr (.cells #[.int .i64 x.val, .int .i64 x.bl, .int .i64 x.lt, .int .i64 x.rt] 37)
      clear hx
      have hba := bel hb ba
      by_cases h0 : 0 ≤ x.val
      rotate_left
      · have q : decide (x.val < 0) = true := by simpa using h0
        have HX := Lib.hid (show K.sound l = false by unfold K.sound; rw [hr.out, HS.out, K.ok_val (by omega)]; rfl)
        clear h0
        go_wp2_with fail
        go_ret
        exact ⟨ret_b HX.out.symm, hba⟩
      by_cases h1 : x.val ≤ 1125899906842624
      rotate_left
      · have q : decide (1125899906842624 < x.val) = true := by simpa using h1
        have HX := Lib.hid (show K.sound l = false by unfold K.sound; rw [hr.out, HS.out, K.ok_val (by omega)]; rfl)
        clear h1
        go_wp2_with fail
        go_ret
        exact ⟨ret_b HX.out.symm, hba⟩
      by_cases h2 : 0 ≤ x.bl
      rotate_left
      · have q : decide (x.bl < 0) = true := by simpa using h2
        have HX := Lib.hid (show K.sound l = false by unfold K.sound; rw [hr.out, HS.out, K.ok_bl (by omega)]; rfl)
        clear h2
        go_wp2_with fail
        go_ret
        exact ⟨ret_b HX.out.symm, hba⟩
      by_cases h3 : x.bl ≤ 1125899906842624
      rotate_left
      · have q : decide (1125899906842624 < x.bl) = true := by simpa using h3
        have HX := Lib.hid (show K.sound l = false by unfold K.sound; rw [hr.out, HS.out, K.ok_bl (by omega)]; rfl)
        clear h3
        go_wp2_with fail
        go_ret
        exact ⟨ret_b HX.out.symm, hba⟩
      have O1 := Lib.hid (And.intro h0 h1)
      have O2 := Lib.hid (And.intro h2 h3)
      go_wp2_with fail
      refine (leaf_any x _).mono ?_
      rintro e w1 ⟨rfl, b1⟩
      have HB := blk_below b1 HB
      have z0 := blk_cell HB 0 _ rfl
      have z1 := blk_cell HB 1 _ rfl
      have z2 := blk_cell HB 2 _ rfl
      have z3 := blk_cell HB 3 _ rfl
      have hb1 := bel ba b1
      have hbw := bel hb hb1
      clear ba b1 hba sa
      cases hlf : K.leafy x
      rotate_left
      · by_cases h4 : x.bl ≤ 1099511627776
        · have HX := Lib.hid (show K.soundFrom l 0 l = K.soundFrom l (k + 1) (l.drop (k + 1)) by rw [hr.out, HS.out, K.ok_leaf O1.out O2.out hlf]; simp [h4])
          go_wp2_with fail
          go_roundw
          case rel => exact ⟨k + 1, by go_num, by omega, HX.out, HUP.out ⟨O1.out, O2.out⟩, bel hbr hb1⟩
          case measure => simp [intOf]; omega
        · have HX := Lib.hid (show K.sound l = false by unfold K.sound; rw [hr.out, HS.out, K.ok_leaf O1.out O2.out hlf]; simp [h4])
          have q : decide (1099511627776 < x.bl) = true := by simpa using h4
          clear h4
          go_wp2_with fail
          go_ret
          exact ⟨ret_b HX.out.symm, hbw⟩
      have HO := Lib.hid (K.ok_sum (l := l) (k := k) O1.out O2.out hlf)
      by_cases g0 : 0 ≤ x.lt
      rotate_left
      · have q : decide (x.lt < 0) = true := by simpa using g0
        have HX := Lib.hid (show K.sound l = false by unfold K.sound; rw [hr.out, HS.out, HO.out]; rw [K.has_no (i := x.lt) (by omega)]; rfl)
        clear g0
        go_wp2_with fail
        go_ret
        exact ⟨ret_b HX.out.symm, hbw⟩
      by_cases g1 : x.lt < k
      rotate_left
      · have q : decide ((k : Int) ≤ x.lt) = true := by simpa using g1
        have HX := Lib.hid (show K.sound l = false by unfold K.sound; rw [hr.out, HS.out, HO.out]; rw [K.has_no (i := x.lt) (by omega)]; rfl)
        clear g1
        go_wp2_with fail
        go_ret
        exact ⟨ret_b HX.out.symm, hbw⟩
      by_cases g2 : 0 ≤ x.rt
      rotate_left
      · have q : decide (x.rt < 0) = true := by simpa using g2
        have HX := Lib.hid (show K.sound l = false by unfold K.sound; rw [hr.out, HS.out, HO.out]; rw [K.has_no (i := x.rt) (by omega)]; cases K.has k x.lt <;> rfl)
        clear g2
        go_wp2_with fail
        go_ret
        exact ⟨ret_b HX.out.symm, hbw⟩
      by_cases g3 : x.rt < k
      rotate_left
      · have q : decide ((k : Int) ≤ x.rt) = true := by simpa using g3
        have HX := Lib.hid (show K.sound l = false by unfold K.sound; rw [hr.out, HS.out, HO.out]; rw [K.has_no (i := x.rt) (by omega)]; cases K.has k x.lt <;> rfl)
        clear g3
        go_wp2_with fail
        go_ret
        exact ⟨ret_b HX.out.symm, hbw⟩
      obtain ⟨i, hi⟩ : ∃ i : Nat, x.lt = i := ⟨x.lt.toNat, by omega⟩
      obtain ⟨j, hj⟩ : ∃ j : Nat, x.rt = j := ⟨x.rt.toNat, by omega⟩
      have hik : i < k := by omega
      have hjk : j < k := by omega
      have hin : i < n := by omega
      have hjn : j < n := by omega
      have HL := Lib.hid (K.has_iff.2 ⟨g0, g1⟩)
      have HR := Lib.hid (K.has_iff.2 ⟨g2, g3⟩)
      obtain ⟨ad', a, he, ha, a0, a1, a2, a3⟩ := Items.at_ (hl.below hbw) hin
      injection he with he; subst he
      obtain ⟨ad', y, he, hy, y0, y1, y2, y3⟩ := Items.at_ (hl.below hbw) hjn
      injection he with he; subst he
      have HU := Lib.hid (show K.sums l x = ((x.val == a.val + y.val) && (x.bl == a.bl + y.bl)) by
        unfold K.sums
        rw [hi, hj, Int.toNat_natCast, Int.toNat_natCast, ha, hy])
      obtain ⟨⟨ua0, ua1⟩, ua2, ua3⟩ := hup.out i a hik ha
      obtain ⟨⟨uy0, uy1⟩, uy2, uy3⟩ := hup.out j y hjk hy
      have hP1 := blk_below (bel hbr hb1) hP0
      have p1 := blk_cell hP1 0 _ rfl
      clear ha hy p0 c0 c1 c2 c3 hP
      have SS : ∀ w', Below w1.heap.size w1 w' → (Below w1.heap.size w1 w' ∧ w'.cell? ⟨w.heap.size, 0, none⟩ = some (.slice (some ad) n c) ∧ w'.cell? ⟨wr.heap.size, 2, none⟩ = some (.int .i64 x.lt) ∧ w'.cell? ⟨wr.heap.size, 3, none⟩ = some (.int .i64 x.rt) ∧
          w'.cell? (ad.add (i * 4)) = some (.int .i64 a.val) ∧ w'.cell? ⟨(ad.add (i * 4)).block, (ad.add (i * 4)).off + 1, none⟩ = some (.int .i64 a.bl) ∧ w'.cell? ⟨(ad.add (i * 4)).block, (ad.add (i * 4)).off + 2, none⟩ = some (.int .i64 a.lt) ∧ w'.cell? ⟨(ad.add (i * 4)).block, (ad.add (i * 4)).off + 3, none⟩ = some (.int .i64 a.rt) ∧
          w'.cell? (ad.add (j * 4)) = some (.int .i64 y.val) ∧ w'.cell? ⟨(ad.add (j * 4)).block, (ad.add (j * 4)).off + 1, none⟩ = some (.int .i64 y.bl) ∧ w'.cell? ⟨(ad.add (j * 4)).block, (ad.add (j * 4)).off + 2, none⟩ = some (.int .i64 y.lt) ∧ w'.cell? ⟨(ad.add (j * 4)).block, (ad.add (j * 4)).off + 3, none⟩ = some (.int .i64 y.rt)) := fun w' h =>
        ⟨h, (h.cell (cell_lt p1)).trans p1, (h.cell (cell_lt z2)).trans z2, (h.cell (cell_lt z3)).trans z3, (h.cell (cell_lt a0)).trans a0, (h.cell (cell_lt a1)).trans a1, (h.cell (cell_lt a2)).trans a2, (h.cell (cell_lt a3)).trans a3,
          (h.cell (cell_lt y0)).trans y0, (h.cell (cell_lt y1)).trans y1, (h.cell (cell_lt y2)).trans y2, (h.cell (cell_lt y3)).trans y3⟩
      rw [hi, hj] at SS
      have i0 : (0 : Int) ≤ (i : Int) := by omega
      have i1 : (i : Int) < (n : Int) := by omega
      have j0 : (0 : Int) ≤ (j : Int) := by omega
      have j1 : (j : Int) < (n : Int) := by omega
      go_wp2_with fail
      go_region_held3 (fun w' => Below w1.heap.size w1 w' ∧ w'.cell? ⟨w.heap.size, 0, none⟩ = some (.slice (some ad) n c) ∧ w'.cell? ⟨wr.heap.size, 2, none⟩ = some (.int .i64 i) ∧ w'.cell? ⟨wr.heap.size, 3, none⟩ = some (.int .i64 j) ∧
          w'.cell? (ad.add (i * 4)) = some (.int .i64 a.val) ∧ w'.cell? ⟨(ad.add (i * 4)).block, (ad.add (i * 4)).off + 1, none⟩ = some (.int .i64 a.bl) ∧ w'.cell? ⟨(ad.add (i * 4)).block, (ad.add (i * 4)).off + 2, none⟩ = some (.int .i64 a.lt) ∧ w'.cell? ⟨(ad.add (i * 4)).block, (ad.add (i * 4)).off + 3, none⟩ = some (.int .i64 a.rt) ∧
          w'.cell? (ad.add (j * 4)) = some (.int .i64 y.val) ∧ w'.cell? ⟨(ad.add (j * 4)).block, (ad.add (j * 4)).off + 1, none⟩ = some (.int .i64 y.bl) ∧ w'.cell? ⟨(ad.add (j * 4)).block, (ad.add (j * 4)).off + 2, none⟩ = some (.int .i64 y.lt) ∧ w'.cell? ⟨(ad.add (j * 4)).block, (ad.add (j * 4)).off + 3, none⟩ = some (.int .i64 y.rt))
        (first | assumption | exact SS _ (Below.refl _ _).drew | exact SS _ ((Below.refl _ _).alloc (Nat.le_refl _) _).drew | exact SS _ (((Below.refl _ _).alloc (Nat.le_refl _) _).alloc (by simp) _).drew)
        (first | fail)
      all_goals
        have hbe : ∀ o o' : Obj, Below w1.heap.size w1 ((w1.alloc o).alloc o').drew := fun o o' => (((Below.refl _ _).alloc (Nat.le_refl _) _).alloc (by simp) _).drew
        have zz0 : ∀ o o' : Obj, ((w1.alloc o).alloc o').drew.cell? ⟨wr.heap.size, 0, none⟩ = some (.int .i64 x.val) := fun o o' => ((hbe o o').cell (cell_lt z0)).trans z0
        have zz1 : ∀ o o' : Obj, ((w1.alloc o).alloc o').drew.cell? ⟨wr.heap.size, 1, none⟩ = some (.int .i64 x.bl) := fun o o' => ((hbe o o').cell (cell_lt z1)).trans z1
        clear SS z0 z1 z2 z3 p1 a0 a1 a2 a3 y0 y1 y2 y3 hP1
        by_cases e1 : x.val = a.val + y.val
        · have q1 : (x.val != a.val + y.val) = false := by simp [e1]
          have HE1 := Lib.hid e1
          clear e1
          by_cases e2 : x.bl = a.bl + y.bl
          · have q2 : (x.bl != a.bl + y.bl) = false := by simp [e2]
            have HX := Lib.hid (show K.soundFrom l 0 l = K.soundFrom l (k + 1) (l.drop (k + 1)) by rw [hr.out, HS.out, HO.out, HL.out, HR.out, HU.out]; simp [HE1.out, e2])
            clear e2
            go_wp2_with fail
            go_roundw
            case rel => exact ⟨k + 1, by go_num, by omega, HX.out, HUP.out ⟨O1.out, O2.out⟩, bel hbr (bel hb1 (hbe _ _))⟩
            case measure => simp [intOf]; omega
          · have q2 : (x.bl != a.bl + y.bl) = true := by simpa using e2
            have HX := Lib.hid (show K.sound l = false by unfold K.sound; rw [hr.out, HS.out, HO.out, HL.out, HR.out, HU.out]; simp [e2])
            clear e2
            go_wp2_with fail
            go_ret
            exact ⟨ret_b HX.out.symm, bel hbw (hbe _ _)⟩
        · have q1 : (x.val != a.val + y.val) = true := by simpa using e1
          have HX := Lib.hid (show K.sound l = false by unfold K.sound; rw [hr.out, HS.out, HO.out, HL.out, HR.out, HU.out]; simp [e1])
          clear e1
          go_wp2_with fail
          go_ret
          exact ⟨ret_b HX.out.symm, bel hbw (hbe _ _)⟩
    · have hd : l.drop k = [] := List.drop_eq_nil_of_le (by rw [← hl.1]; omega)
      have HX := Lib.hid (show K.sound l = decide (n ≤ 1000) by unfold K.sound; rw [hr.out, hd, ← hl.1]; rfl)
      clear hd
      go_wp2_with fail
      go_ret
      exact ⟨ret_b (by rw [HX.out, Bool.eq_iff_iff]; simp; omega), hb⟩
end Go.Proofs.Ytijkaiilecpbcaa
