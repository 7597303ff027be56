/-
The walk of total.Path.
-/
import Derived.Test.YtijkaiilecpbcaaW10
namespace Go.Proofs.Ytijkaiilecpbcaa
open Go.RowKit

theorem K.path_no {l : List It} {root leaf : Int} (h : (K.sound l && (K.has l.length root && (K.has l.length leaf && (K.near l leaf.toNat).getD root.toNat false))) = false) : K.path l root leaf = [] := by
  unfold K.path; rw [h]; rfl

set_option maxRecDepth 100000 in
set_option maxHeartbeats 8000000 in
theorem path_any (A : Option Addr) (n c : Nat) (l : List It) (root leaf : Int) (w : World) (hl : Items w A n l) (hn : n ≤ 100000) :
    Calls Try.prog 12 #[.agg #[.slice A n c], .int .i64 root, .int .i64 leaf] w fun e w' => (∃ A' n' c', e = .returned (.slice A' n' c') ∧ Ints w' A' n' (K.path l root leaf)) ∧ Below w.heap.size w w' := by
  have b0 := (Below.refl w.heap.size w).alloc (Nat.le_refl _) (.cells #[.slice A n c] 24)
  have hP0 := vbox w A n c
  have hnn : n ≤ 1000000000000 := by omega
  cases h1 : K.sound l
  · have HX := Lib.hid (K.path_no (root := root) (leaf := leaf) (l := l) (by rw [h1]; rfl))
    have H1 := Lib.hid h1
    clear h1
    go_enter Try.func12, Try.ntmps12
    go_wp2_with fail
    refine (sound_any A n c l _ (hl.below b0) hnn).mono ?_; rw [H1.out]; rintro e w1 ⟨rfl, b1⟩
    go_wp2_with fail
    go_ret
    exact ⟨⟨_, _, _, rfl, by rw [HX.out]; exact ints_nil _⟩, bel b0 b1⟩
  have H1 := Lib.hid h1
  cases h2 : K.has n root
  · have HX := Lib.hid (K.path_no (root := root) (leaf := leaf) (l := l) (by rw [h1, ← hl.1, h2]; rfl))
    have H2 := Lib.hid h2
    clear h1 h2
    go_enter Try.func12, Try.ntmps12
    go_wp2_with fail
    refine (sound_any A n c l _ (hl.below b0) hnn).mono ?_; rw [H1.out]; rintro e w1 ⟨rfl, b1⟩
    have hP1 := blk_below b1 hP0
    have p0 : w1.cell? ⟨w.heap.size, 0, none⟩ = some (.slice A n c) := blk_cell hP1 0 _ rfl
    go_wp2_with fail
    refine (has_any A n c root _).mono ?_; rw [H2.out]; rintro e w2 ⟨rfl, b2⟩
    go_wp2_with fail
    go_ret
    exact ⟨⟨_, _, _, rfl, by rw [HX.out]; exact ints_nil _⟩, bel (bel b0 b1) b2⟩
  have H2 := Lib.hid h2
  cases h3 : K.has n leaf
  · have HX := Lib.hid (K.path_no (root := root) (leaf := leaf) (l := l) (by rw [h1, ← hl.1, h2, h3]; rfl))
    have H3 := Lib.hid h3
    clear h1 h2 h3
    go_enter Try.func12, Try.ntmps12
    go_wp2_with fail
    refine (sound_any A n c l _ (hl.below b0) hnn).mono ?_; rw [H1.out]; rintro e w1 ⟨rfl, b1⟩
    have hP1 := blk_below b1 hP0
    have p0 : w1.cell? ⟨w.heap.size, 0, none⟩ = some (.slice A n c) := blk_cell hP1 0 _ rfl
    go_wp2_with fail
    refine (has_any A n c root _).mono ?_; rw [H2.out]; rintro e w2 ⟨rfl, b2⟩
    have hP2 := blk_below b2 hP1
    clear p0
    have p0 : w2.cell? ⟨w.heap.size, 0, none⟩ = some (.slice A n c) := blk_cell hP2 0 _ rfl
    go_wp2_with fail
    refine (has_any A n c leaf _).mono ?_; rw [H3.out]; rintro e w3 ⟨rfl, b3⟩
    go_wp2_with fail
    go_ret
    exact ⟨⟨_, _, _, rfl, by rw [HX.out]; exact ints_nil _⟩, bel (bel (bel b0 b1) b2) b3⟩
  have H3 := Lib.hid h3
  obtain ⟨r0, r1⟩ := K.has_iff.1 h2
  obtain ⟨f0, f1⟩ := K.has_iff.1 h3
  obtain ⟨ro, rfl⟩ : ∃ k : Nat, root = k := ⟨root.toNat, by omega⟩
  obtain ⟨lf, rfl⟩ : ∃ k : Nat, leaf = k := ⟨leaf.toNat, by omega⟩
  have hro : ro < n := by omega
  have hlf : lf < n := by omega
  have HPA := Lib.hid (show K.path l ro lf = if (K.near l lf).getD ro false = true then (ro : Int) :: K.tailOf l (K.near l lf) lf (ro + 1) ro else [] by
    unfold K.path; rw [h1, ← hl.1, h2, h3]; rfl)
  have hnl : (K.near l lf).length = n := by unfold K.near; rw [K.near_len]; exact hl.1.symm
  have HNS := Lib.hid (fun (i : Nat) (x : It) (hx : l[i]? = some x) => K.near_step (leaf := lf) h1 hx)
  clear h1 h2 h3 r0 r1 f0 f1
  go_enter Try.func12, Try.ntmps12
  go_wp2_with fail
  refine (sound_any A n c l _ (hl.below b0) hnn).mono ?_; rw [H1.out]; rintro e w1 ⟨rfl, b1⟩
  have hP1 := blk_below b1 hP0
  have p0 : w1.cell? ⟨w.heap.size, 0, none⟩ = some (.slice A n c) := blk_cell hP1 0 _ rfl
  have hb := bel b0 b1
  clear b0 b1 hP0
  go_wp2_with fail
  refine (has_any A n c ro _).mono ?_; rw [H2.out]; rintro e w2 ⟨rfl, b2⟩
  have hP2 := blk_below b2 hP1
  have hb := bel hb b2
  clear p0 b2
  have p0 : w2.cell? ⟨w.heap.size, 0, none⟩ = some (.slice A n c) := blk_cell hP2 0 _ rfl
  go_wp2_with fail
  refine (has_any A n c lf _).mono ?_; rw [H3.out]; rintro e w3 ⟨rfl, b3⟩
  have hP3 := blk_below b3 hP2
  have hb := bel hb b3
  clear p0 b3
  have p0 : w3.cell? ⟨w.heap.size, 0, none⟩ = some (.slice A n c) := blk_cell hP3 0 _ rfl
  go_wp2_with fail
  refine (reach_any A n c l lf _ (hl.below hb) (by omega) H1.out hlf).mono ?_
  rintro e w4 ⟨g, rfl, hg, hB, b4⟩
  have hP4 := blk_below b4 hP3
  have hb := bel hb b4
  clear p0 b4 hg
  have hBr := hB.at_ (i := ro) (by rw [hnl]; exact hro)
  have i0 : (0 : Int) ≤ (ro : Int) := by omega
  have i1 : (ro : Int) < (n : Int) := by omega
  cases hne : (K.near l lf).getD ro false
  · rw [hne] at hBr
    have HX := Lib.hid (show K.path l ro lf = [] by rw [HPA.out, hne]; rfl)
    clear hne
    go_wp2_with fail
    go_ret
    exact ⟨⟨_, _, _, rfl, by rw [HX.out]; exact ints_nil _⟩, hb⟩
  · rw [hne] at hBr
    have HX := Lib.hid (show K.path l ro lf = (ro : Int) :: K.tailOf l (K.near l lf) lf (ro + 1) ro by rw [HPA.out, hne]; rfl)
    have HNE := Lib.hid hne
    clear hne
    go_wp2_with fail
    have hlit : (w4.alloc (.cells #[.int .i64 ro] 3)).ownsRow w4.heap.size 3 1 (.slice (some ⟨w4.heap.size, 0, none⟩) 1 1) 1 (intCells [(ro : Int)]) := World.ownsRow_lit w4 #[.int .i64 ro] 1 (Nat.le_refl _) (by simp only [maxLen]; omega) (by simp)
    have b4 := (Below.refl w4.heap.size w4).alloc (Nat.le_refl _) (.cells #[.int .i64 ro] 3)
    go_loopw [8, 9] (fun v va wr => ∃ (k f m : Nat) (P : List Int), va = .int .i64 k ∧ k < n ∧ k < f ∧ m = P.length ∧ m + k ≤ n ∧ Hid (K.path l ro lf = P ++ K.tailOf l (K.near l lf) lf f k) ∧ Hid ((K.near l lf).getD k false = true) ∧ wr.ownsRow w4.heap.size 3 1 v m (intCells P) ∧ Below w4.heap.size w4 wr) (fun _ va _ => (intOf va).toNat)
    case atStart => exact ⟨ro, ro + 1, 1, [(ro : Int)], rfl, hro, by omega, rfl, by omega, HX.out, HNE.out, hlit, b4⟩
    case round =>
      obtain ⟨k, f, m, P, rfl, hk, hkf, hm, hmk, hpa, hne, hown, hbr⟩ := hrel
      clear hlit b4 hBr
      have hbw := bel hb hbr
      have hP := blk_below hbr hP4
      have p0 : wr.cell? ⟨w.heap.size, 0, none⟩ = some (.slice A n c) := blk_cell hP 0 _ rfl
      have hB := hB.below hbr
      by_cases hkl : k = lf
      · subst hkl
        have hend : K.path l ro k = P := by rw [hpa.out, K.tail_end, List.append_nil]
        obtain ⟨A', c', rfl, hI⟩ := own_ints hown hm
        have HEN := Lib.hid hend
        clear hend hown hpa
        go_wp2_with fail
        go_ret
        exact ⟨⟨_, _, _, rfl, by rw [HEN.out]; exact hI⟩, hbw⟩
      · obtain ⟨ad, x, rfl, hx, c0, c1, c2, c3⟩ := Items.at_ (hl.below hbw) hk
        obtain ⟨hlx, ⟨⟨l0, l1⟩, q0, q1⟩, hnx⟩ := HNS.out k x hx hne.out hkl
        obtain ⟨f', rfl⟩ : ∃ f', f = f' + 1 := ⟨f - 1, by omega⟩
        have HT := Lib.hid (K.tail_next (bs := K.near l lf) (f := f') hx hkl)
        have hkb : ((k : Int) != (lf : Int)) = true := by simp; omega
        obtain ⟨i, hi⟩ : ∃ i : Nat, x.lt = i := ⟨x.lt.toNat, by omega⟩
        obtain ⟨j, hj⟩ : ∃ j : Nat, x.rt = j := ⟨x.rt.toNat, by omega⟩
        have hik : i < k := by omega
        have hjk : j < k := by omega
        have ci := hB.at_ (i := i) (by rw [hnl]; omega)
        have cj := hB.at_ (i := j) (by rw [hnl]; omega)
        have HNX := Lib.hid hnx
        have HIJ := Lib.hid (show K.nextOf (K.near l lf) x = if (K.near l lf).getD (min (i : Int) j).toNat false then min (i : Int) j else max (i : Int) j by unfold K.nextOf; rw [hi, hj])
        clear hx hkl hlx l0 l1 q0 q1 hnx
        rw [hi] at c2
        rw [hj] at c3
        have bd : ∀ (o : Obj) (nq : Nat) (o' : Obj), Below wr.heap.size wr (((wr.alloc o).drewN nq).alloc o') := fun o nq o' => (below_drewN ((Below.refl wr.heap.size wr).alloc (Nat.le_refl _) o) nq).alloc (by show _ ≤ (wr.alloc o).heap.size; rw [World.size_alloc]; omega) o'
        have ownd : ∀ (o : Obj) (nq : Nat) (o' : Obj), (((wr.alloc o).drewN nq).alloc o').ownsRow w4.heap.size 3 1 u8 m (intCells P) := fun o nq o' => own_below hown (bd o nq o')
        have newd : ∀ (o : Obj) (nq : Nat) (y : Int), (((wr.alloc o).drewN nq).alloc (.cells #[.int .i64 y] 3)).heap[wr.heap.size + 1]? = some (.cells #[.int .i64 y] 3 (0, 0)) := fun o nq y => heap_alloc_at _ _ _ (by show _ = (wr.alloc o).heap.size; rw [World.size_alloc])
        have szd : ∀ (o : Obj) (nq : Nat) (o' : Obj), w4.heap.size ≤ (((wr.alloc o).drewN nq).alloc o').heap.size := fun o nq o' => Nat.le_trans hbr.size (bd o nq o').size
        by_cases hij : i < j
        · have i2 : (i : Int) < (j : Int) := by omega
          have cf := hB.at_ (i := i) (by rw [hnl]; omega)
          have cfa : ∀ (o : Obj) (nq : Nat), ((wr.alloc o).drewN nq).cell? ⟨g, i, none⟩ = some (.bool ((K.near l lf).getD i false)) := fun o nq => (((Below.refl _ _).alloc (Nat.le_refl _) _).cell (cell_lt cf)).trans cf
          have HMM := Lib.hid (show K.nextOf (K.near l lf) x = if (K.near l lf).getD i false then (i : Int) else (j : Int) by rw [HIJ.out, Int.min_eq_left (by omega), Int.max_eq_right (by omega), Int.toNat_natCast])
          cases hbf : (K.near l lf).getD i false
          · have HY := Lib.hid (show K.nextOf (K.near l lf) x = (j : Int) by rw [HMM.out, hbf]; rfl)
            rw [hbf] at cfa
            clear hbf cf HMM ci cj
            go_wp2_with fail
            go_quiet (fail)
            go_wp2_with (at_builtin; refine app_int rfl (.tmp 64) (.tmp 66) rfl w4.heap.size _ _ _ rfl (ownd _ _ _) (wr.heap.size + 1) j rfl (newd _ _ _) (by omega) (szd _ _ _) ?_; intro v' w6 hown6 hgrow6 hat6)
            have hb6 : Below w4.heap.size w4 w6 := (hbr.trans ((bd _ _ _).mono hbr.size)).grown hgrow6 (szd _ _ _) (fun g h => (hown.lt g h).1)
            clear hgrow6 hat6
            go_roundw
            case rel => exact ⟨j, f', m + 1, P ++ [(j : Int)], rfl, by omega, by omega, by rw [List.length_append, hm]; rfl, by omega, by show _ = _; rw [hpa.out, HT.out, HY.out, Int.toNat_natCast, List.append_assoc]; rfl, by show _ = _; have := HNX.out; rwa [HY.out, Int.toNat_natCast] at this, hown6, hb6⟩
            case measure => simp [intOf]; omega
          · have HY := Lib.hid (show K.nextOf (K.near l lf) x = (i : Int) by rw [HMM.out, hbf]; rfl)
            rw [hbf] at cfa
            clear hbf cf HMM ci cj
            go_wp2_with fail
            go_quiet (fail)
            go_wp2_with (at_builtin; refine app_int rfl (.tmp 64) (.tmp 66) rfl w4.heap.size _ _ _ rfl (ownd _ _ _) (wr.heap.size + 1) i rfl (newd _ _ _) (by omega) (szd _ _ _) ?_; intro v' w6 hown6 hgrow6 hat6)
            have hb6 : Below w4.heap.size w4 w6 := (hbr.trans ((bd _ _ _).mono hbr.size)).grown hgrow6 (szd _ _ _) (fun g h => (hown.lt g h).1)
            clear hgrow6 hat6
            go_roundw
            case rel => exact ⟨i, f', m + 1, P ++ [(i : Int)], rfl, by omega, by omega, by rw [List.length_append, hm]; rfl, by omega, by show _ = _; rw [hpa.out, HT.out, HY.out, Int.toNat_natCast, List.append_assoc]; rfl, by show _ = _; have := HNX.out; rwa [HY.out, Int.toNat_natCast] at this, hown6, hb6⟩
            case measure => simp [intOf]; omega
        by_cases hji : j < i
        · have i2 : (j : Int) < (i : Int) := by omega
          have cf := hB.at_ (i := j) (by rw [hnl]; omega)
          have cfa : ∀ (o : Obj) (nq : Nat), ((wr.alloc o).drewN nq).cell? ⟨g, j, none⟩ = some (.bool ((K.near l lf).getD j false)) := fun o nq => (((Below.refl _ _).alloc (Nat.le_refl _) _).cell (cell_lt cf)).trans cf
          have HMM := Lib.hid (show K.nextOf (K.near l lf) x = if (K.near l lf).getD j false then (j : Int) else (i : Int) by rw [HIJ.out, Int.min_eq_right (by omega), Int.max_eq_left (by omega), Int.toNat_natCast])
          cases hbf : (K.near l lf).getD j false
          · have HY := Lib.hid (show K.nextOf (K.near l lf) x = (i : Int) by rw [HMM.out, hbf]; rfl)
            rw [hbf] at cfa
            clear hbf cf HMM ci cj
            go_wp2_with fail
            go_quiet (fail)
            go_wp2_with (at_builtin; refine app_int rfl (.tmp 64) (.tmp 66) rfl w4.heap.size _ _ _ rfl (ownd _ _ _) (wr.heap.size + 1) i rfl (newd _ _ _) (by omega) (szd _ _ _) ?_; intro v' w6 hown6 hgrow6 hat6)
            have hb6 : Below w4.heap.size w4 w6 := (hbr.trans ((bd _ _ _).mono hbr.size)).grown hgrow6 (szd _ _ _) (fun g h => (hown.lt g h).1)
            clear hgrow6 hat6
            go_roundw
            case rel => exact ⟨i, f', m + 1, P ++ [(i : Int)], rfl, by omega, by omega, by rw [List.length_append, hm]; rfl, by omega, by show _ = _; rw [hpa.out, HT.out, HY.out, Int.toNat_natCast, List.append_assoc]; rfl, by show _ = _; have := HNX.out; rwa [HY.out, Int.toNat_natCast] at this, hown6, hb6⟩
            case measure => simp [intOf]; omega
          · have HY := Lib.hid (show K.nextOf (K.near l lf) x = (j : Int) by rw [HMM.out, hbf]; rfl)
            rw [hbf] at cfa
            clear hbf cf HMM ci cj
            go_wp2_with fail
            go_quiet (fail)
            go_wp2_with (at_builtin; refine app_int rfl (.tmp 64) (.tmp 66) rfl w4.heap.size _ _ _ rfl (ownd _ _ _) (wr.heap.size + 1) j rfl (newd _ _ _) (by omega) (szd _ _ _) ?_; intro v' w6 hown6 hgrow6 hat6)
            have hb6 : Below w4.heap.size w4 w6 := (hbr.trans ((bd _ _ _).mono hbr.size)).grown hgrow6 (szd _ _ _) (fun g h => (hown.lt g h).1)
            clear hgrow6 hat6
            go_roundw
            case rel => exact ⟨j, f', m + 1, P ++ [(j : Int)], rfl, by omega, by omega, by rw [List.length_append, hm]; rfl, by omega, by show _ = _; rw [hpa.out, HT.out, HY.out, Int.toNat_natCast, List.append_assoc]; rfl, by show _ = _; have := HNX.out; rwa [HY.out, Int.toNat_natCast] at this, hown6, hb6⟩
            case measure => simp [intOf]; omega
        · have hee : i = j := by omega
          subst hee
          have cf := hB.at_ (i := i) (by rw [hnl]; omega)
          have cfa : ∀ (o : Obj) (nq : Nat), ((wr.alloc o).drewN nq).cell? ⟨g, i, none⟩ = some (.bool ((K.near l lf).getD i false)) := fun o nq => (((Below.refl _ _).alloc (Nat.le_refl _) _).cell (cell_lt cf)).trans cf
          have HMM := Lib.hid (show K.nextOf (K.near l lf) x = if (K.near l lf).getD i false then (i : Int) else (i : Int) by rw [HIJ.out, Int.min_eq_left (by omega), Int.max_eq_left (by omega), Int.toNat_natCast])
          cases hbf : (K.near l lf).getD i false
          · have HY := Lib.hid (show K.nextOf (K.near l lf) x = (i : Int) by rw [HMM.out, hbf]; rfl)
            rw [hbf] at cfa
            clear hbf cf HMM ci cj
            go_wp2_with fail
            go_quiet (fail)
            go_wp2_with (at_builtin; refine app_int rfl (.tmp 64) (.tmp 66) rfl w4.heap.size _ _ _ rfl (ownd _ _ _) (wr.heap.size + 1) i rfl (newd _ _ _) (by omega) (szd _ _ _) ?_; intro v' w6 hown6 hgrow6 hat6)
            have hb6 : Below w4.heap.size w4 w6 := (hbr.trans ((bd _ _ _).mono hbr.size)).grown hgrow6 (szd _ _ _) (fun g h => (hown.lt g h).1)
            clear hgrow6 hat6
            go_roundw
            case rel => exact ⟨i, f', m + 1, P ++ [(i : Int)], rfl, by omega, by omega, by rw [List.length_append, hm]; rfl, by omega, by show _ = _; rw [hpa.out, HT.out, HY.out, Int.toNat_natCast, List.append_assoc]; rfl, by show _ = _; have := HNX.out; rwa [HY.out, Int.toNat_natCast] at this, hown6, hb6⟩
            case measure => simp [intOf]; omega
          · have HY := Lib.hid (show K.nextOf (K.near l lf) x = (i : Int) by rw [HMM.out, hbf]; rfl)
            rw [hbf] at cfa
            clear hbf cf HMM ci cj
            go_wp2_with fail
            go_quiet (fail)
            go_wp2_with (at_builtin; refine app_int rfl (.tmp 64) (.tmp 66) rfl w4.heap.size _ _ _ rfl (ownd _ _ _) (wr.heap.size + 1) i rfl (newd _ _ _) (by omega) (szd _ _ _) ?_; intro v' w6 hown6 hgrow6 hat6)
            have hb6 : Below w4.heap.size w4 w6 := (hbr.trans ((bd _ _ _).mono hbr.size)).grown hgrow6 (szd _ _ _) (fun g h => (hown.lt g h).1)
            clear hgrow6 hat6
            go_roundw
            case rel => exact ⟨i, f', m + 1, P ++ [(i : Int)], rfl, by omega, by omega, by rw [List.length_append, hm]; rfl, by omega, by show _ = _; rw [hpa.out, HT.out, HY.out, Int.toNat_natCast, List.append_assoc]; rfl, by show _ = _; have := HNX.out; rwa [HY.out, Int.toNat_natCast] at this, hown6, hb6⟩
            case measure => simp [intOf]; omega
end Go.Proofs.Ytijkaiilecpbcaa
