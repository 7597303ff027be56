/-
The walk of hours.Both, when both lists are right and one of them is not empty.
-/
import Derived.Test.YtdbllcphopecjaaH4
namespace Go.Proofs.Ytdbllcphopecjaa
open Go.RowKit

/-- The common parts of the first k windows of one list with another. -/
def outk (a b : List (Int × Int)) (k : Nat) : List (Int × Int) := (a.take k).flatMap (fun x => b.filterMap (H.inter x))
/-- The common parts of a window with the first j of a list. -/
def ink (x : Int × Int) (b : List (Int × Int)) (j : Nat) : List (Int × Int) := (b.take j).filterMap (H.inter x)

theorem ink_yes {x : Int × Int} {b : List (Int × Int)} {j : Nat} {yo yc o c : Int} (h : b[j]? = some (yo, yc)) (h1 : max x.1 yo = o) (h2 : min x.2 yc = c) (h3 : o ≤ c) : ink x b (j + 1) = ink x b j ++ [(o, c)] := by
  unfold ink
  rw [H.take_filter h, show H.inter x (yo, yc) = some (o, c) by simp only [H.inter, h1, h2]; rw [if_pos h3]]
theorem ink_no {x : Int × Int} {b : List (Int × Int)} {j : Nat} {yo yc o c : Int} (h : b[j]? = some (yo, yc)) (h1 : max x.1 yo = o) (h2 : min x.2 yc = c) (h3 : ¬ o ≤ c) : ink x b (j + 1) = ink x b j := by
  unfold ink
  rw [H.take_filter h, show H.inter x (yo, yc) = none by simp only [H.inter, h1, h2]; rw [if_neg h3]]
  simp
theorem outk_next {a b : List (Int × Int)} {k : Nat} {x : Int × Int} (h : a[k]? = some x) {j : Nat} (hj : b.length ≤ j) : outk a b (k + 1) = outk a b k ++ ink x b j := by
  unfold outk ink
  rw [H.take_flat h, List.take_of_length_le hj]
theorem outk_le (a b : List (Int × Int)) (k : Nat) : (outk a b k).length ≤ k * b.length := H.flat_le a b k
theorem ink_le (x : Int × Int) (b : List (Int × Int)) (j : Nat) : (ink x b j).length ≤ b.length := by
  unfold ink
  have := H.filterMap_le (H.inter x) (b.take j)
  rw [List.length_take] at this
  omega

set_option maxHeartbeats 400000 in
theorem all_at (A : Option Addr) (n c : Nat) (l : List (Int × Int)) (w : World) (hl : Wins w A n l) (hn : n ≤ 1000000000) :
    Calls Try.prog 47 #[.slice A n c] w fun e w' => (∃ A' n' c', e = .returned (.slice A' n' c') ∧ Wins w' A' n' (H.all l) ∧ ((n ≠ 0 ∧ A' = A) ∨ ∃ g, A' = some ⟨g, 0, none⟩ ∧ w.heap.size ≤ g)) ∧ Below w.heap.size w w' := by
  by_cases h0 : n = 0
  · subst h0
    have e : H.all l = [(0, 1000000)] := by unfold H.all; rw [if_pos hl.1.symm]
    rw [e]
    clear e
    go_enter Try.func47, Try.ntmps47
    go_wp2
    go_ret
    exact ⟨⟨_, _, _, rfl, ⟨rfl, Rd.new w _ 56 2 1 rfl⟩, .inr ⟨_, rfl, Nat.le_refl _⟩⟩, (Below.refl _ _).alloc (Nat.le_refl _) _⟩
  · have e0 : ((n : Int) == 0) = false := by simp; omega
    go_enter Try.func47, Try.ntmps47
    go_wp2
    go_ret
    exact ⟨⟨A, n, c, rfl, all_wins hl (Below.refl _ _) h0, .inl ⟨h0, rfl⟩⟩, Below.refl _ _⟩

theorem own_below {w w' : World} {base : Nat} {e : TypeId} {size n : Nat} {v : Value} {xs : List Value} (h : w.ownsRow base e size v n xs) (hb : Below w.heap.size w w') : w'.ownsRow base e size v n xs := by
  obtain ⟨hl, h1 | ⟨g, cap, cur, hv, hbg, hh, r⟩⟩ := h
  · exact ⟨hl, .inl h1⟩
  · exact ⟨hl, .inr ⟨g, cap, cur, hv, hbg, blk_below hb hh, r⟩⟩

theorem below_own2 {B : Nat} {w2 w3 wr : World} {r : Option Nat} (h : Below B w2 w3) (hg : w3.grownBy wr r) (hr : ∀ g, r = some g → B ≤ g) (hB : B ≤ w2.heap.size := by exact Nat.le_refl _) : Below B w2 wr :=
  h.grown hg (Nat.le_trans hB h.size) hr

theorem heap_alloc_at (w : World) (o : Obj) (g : Nat) (hg : g = w.heap.size) : (w.alloc o).heap[g]? = some o := by subst hg; exact heap_alloc_new w o

theorem beq0_no (x : Nat) (h : ¬ x = 0) : ((x : Int) == 0) = false := by simp; omega
theorem beq0_yes (x : Nat) (h : x = 0) : ((x : Int) == 0) = true := by simp; omega
theorem gt_no (x y : Nat) (h : ¬ y < x) : decide ((y : Int) < (x : Int)) = false := by simp; omega

theorem wins_nil (w : World) : Wins w none 0 [] := ⟨rfl, rfl, fun h => absurd h (by omega)⟩

theorem own_next {w3 : World} {v v' : Value} {r3 : Option Nat} {s : Nat} (h : v.ownBlock = r3 ∨ v.ownBlock = none ∨ ∃ g, v.ownBlock = some g ∧ w3.heap.size ≤ g) (h1 : v'.ownBlock = v.ownBlock ∨ v'.ownBlock = some s) (hs : w3.heap.size ≤ s) :
    v'.ownBlock = r3 ∨ v'.ownBlock = none ∨ ∃ g, v'.ownBlock = some g ∧ w3.heap.size ≤ g := by
  rcases h1 with e | e
  · rw [e]; exact h
  · exact .inr (.inr ⟨s, e, hs⟩)

theorem wins_block {w : World} {A : Option Addr} {n : Nat} {l : List (Int × Int)} (h : Wins w A n l) (hn : n ≠ 0) : ∀ ad, A = some ad → ad.block < w.heap.size := by
  intro ad e
  obtain ⟨ad', o, c, e', _, h0, _⟩ := h.at_ (k := 0) (by omega)
  rw [e] at e'
  injection e' with e'
  subst e'
  have := cell_lt h0
  rw [add_block] at this
  exact this

set_option maxRecDepth 100000 in
set_option maxHeartbeats 8000000 in
theorem both_loops (A B : Option Addr) (n m c d : Nat) (la lb : List (Int × Int)) (w : World) (hla : Wins w A n la) (hlb : Wins w B m lb) (hra : H.right la = true) (hrb : H.right lb = true) (hne : ¬ (n = 0 ∧ m = 0)) :
    Calls Try.prog 33 #[.slice A n c, .slice B m d] w fun e w' => (∃ A' n' c', e = .returned (.tuple #[.slice A' n' c', .bool (H.both la lb).2]) ∧ Wins w' A' n' (H.both la lb).1) ∧ Below w.heap.size w w' := by
  have hn : n ≤ 6 := by have := (H.right_bd hra).1; rw [hla.1]; exact this
  have hm : m ≤ 6 := by have := (H.right_bd hrb).1; rw [hlb.1]; exact this
  have HA := Lib.hid (H.all_bd hra)
  have HB := Lib.hid (H.all_bd hrb)
  have hcase : ((n : Int) == 0) = false ∨ (((n : Int) == 0) = true ∧ ((m : Int) == 0) = false) := by
    by_cases h0 : n = 0
    · right; exact ⟨by simp [h0], by simp; omega⟩
    · left; simp; omega
  have hfin : H.both la lb = if (outk (H.all la) (H.all lb) (H.all la).length).length = 0 ∨ 6 < (outk (H.all la) (H.all lb) (H.all la).length).length then ([], false) else (outk (H.all la) (H.all lb) (H.all la).length, true) := by
    unfold H.both outk
    rw [if_pos (by simp [hra, hrb]), if_neg (by rw [← hla.1, ← hlb.1]; exact hne), List.take_length]
    rfl
  have HFIN := Lib.hid hfin
  have HR := Lib.hid hra; have HS := Lib.hid hrb
  clear hra hrb hne hfin
  rcases hcase with hc | ⟨hc1, hc2⟩
  all_goals
    go_enter Try.func33, Try.ntmps33
    go_wp2_with fail
    refine (hright_any A n c la _ hla (by omega)).mono ?_; rw [HR.out]; rintro e w1 ⟨rfl, hb1⟩
    go_wp2_with fail
    refine (hright_any B m d lb _ (hlb.below hb1) (by omega)).mono ?_; rw [HS.out]; rintro e w1' ⟨rfl, hb1'⟩
    go_wp2_with fail
    refine (all_any A n c la _ ((hla.below hb1).below hb1') (by omega)).mono ?_; rintro e w2 ⟨A1, n1, c1, rfl, h1, hb2⟩
    have hn1 : n1 ≤ 6 := by rw [h1.1]; exact HA.out.1
    have hb := bel (bel hb1 hb1') hb2
    clear hb1 hb1' hb2
    have hlb2 := hlb.below hb
    have hBblk : m ≠ 0 → ∀ ad, B = some ad → ad.block < w2.heap.size := wins_block hlb2
    have HBB := Lib.hid hBblk
    clear hBblk
    go_wp2_with fail
    go_loopw [6, 31] (fun vo vi wr => ∃ k : Nat, vi = .int .i64 k ∧ k ≤ n1 ∧ wr.ownsRow w2.heap.size 56 2 vo (outk (H.all la) (H.all lb) k).length (winCells (outk (H.all la) (H.all lb) k)) ∧ Below w2.heap.size w2 wr) (fun _ vi _ => n1 - (intOf vi).toNat)
    case atStart => exact ⟨0, rfl, by omega, World.ownsRow_nil _ _ _ _, Below.refl _ _⟩
    case round =>
      obtain ⟨wo, rfl⟩ : ∃ wo : World, wo = wr := ⟨_, rfl⟩
      obtain ⟨k, rfl, hk, hown, hbr⟩ := hrel
      by_cases hlt : k < n1
      · obtain ⟨ad, xo, xc, rfl, hg, cx0, cx1⟩ := (h1.below hbr).at_ hlt
        have HG := Lib.hid hg
        clear hg
        obtain ⟨A0, c0, rfl, hrd0, hblk0⟩ := own_form hown
        go_wp2_with fail
        refine (all_at B m d lb _ ((hlb2.below hbr).below ((Below.refl _ _).alloc (Nat.le_refl _) _)) (by omega)).mono ?_
        rintro e w3 ⟨⟨A2, n2, c2, rfl, h2, hloc⟩, hb3⟩
        have hxb : w3.heap[wo.heap.size]? = some (.cells #[.int .i64 xo, .int .i64 xc] 56 (0, 0)) := blk_below hb3 (heap_alloc_new wo _)
        have hb3' : Below wo.heap.size wo w3 := bel ((Below.refl _ _).alloc (Nat.le_refl _) _) hb3
        have hown3 : w3.ownsRow w2.heap.size 56 2 (.slice A0 (outk (H.all la) (H.all lb) k).length c0) (outk (H.all la) (H.all lb) k ++ ink (xo, xc) (H.all lb) 0).length (winCells (outk (H.all la) (H.all lb) k ++ ink (xo, xc) (H.all lb) 0)) := by
          have : ink (xo, xc) (H.all lb) 0 = [] := rfl
          rw [this, List.append_nil]
          exact own_below hown hb3'
        have hr3 : ∀ g, (Value.slice A0 (outk (H.all la) (H.all lb) k).length c0).ownBlock = some g → g < wo.heap.size ∧ w2.heap.size ≤ g := fun g e => ⟨(hblk0 g e).2, (hblk0 g e).1⟩
        have hxne : some wo.heap.size ≠ (Value.slice A0 (outk (H.all la) (H.all lb) k).length c0).ownBlock := fun e => by have := (hr3 _ e.symm).1; omega
        have hsafe : ∀ ad, A2 = some ad → some ad.block ≠ (Value.slice A0 (outk (H.all la) (H.all lb) k).length c0).ownBlock := by
          intro ad e e'
          have h4 := hr3 _ e'.symm
          rcases hloc with ⟨hm0, rfl⟩ | ⟨g, rfl, hg⟩
          · have := HBB.out hm0 ad e; omega
          · injection e with e; subst e
            simp at hg h4
            omega
        have hn2 : n2 ≤ 6 := by rw [h2.1]; exact HB.out.1
        have hol := outk_le (H.all la) (H.all lb) k
        have hol2 : k * (H.all lb).length ≤ 36 := Nat.mul_le_mul (by omega : k ≤ 6) HB.out.1
        have hol3 : (outk (H.all la) (H.all lb) k).length ≤ 36 := by omega
        have hbw3 : Below w2.heap.size w2 w3 := hbr.trans (hb3'.mono hbr.size)
        obtain ⟨r3, hr3e⟩ : ∃ r3, r3 = (Value.slice A0 (outk (H.all la) (H.all lb) k).length c0).ownBlock := ⟨_, rfl⟩
        rw [← hr3e] at hxne hsafe hr3
        have HR3 := Lib.hid hr3e
        have HX := Lib.hid hxb; have HXN := Lib.hid hxne; have HSF := Lib.hid hsafe; have HR3B := Lib.hid hr3
        clear hr3e hxb hxne hsafe hr3 hloc hol hol2 hrd0 hblk0 hb3 cx0 cx1 hown
        go_wp2_with fail
        go_loopw [6, 38] (fun vo vj wi => ∃ j : Nat, vj = .int .i64 j ∧ j ≤ n2 ∧ wi.ownsRow w2.heap.size 56 2 vo (outk (H.all la) (H.all lb) k ++ ink (xo, xc) (H.all lb) j).length (winCells (outk (H.all la) (H.all lb) k ++ ink (xo, xc) (H.all lb) j)) ∧
            w3.grownBy wi r3 ∧ (vo.ownBlock = r3 ∨ vo.ownBlock = none ∨ ∃ g, vo.ownBlock = some g ∧ w3.heap.size ≤ g)) (fun _ vj _ => n2 - (intOf vj).toNat)
        case atStart => exact ⟨0, rfl, by omega, hown3, grow_refl _ _, .inl HR3.out.symm⟩
        case round =>
          obtain ⟨wi, rfl⟩ : ∃ wi : World, wi = wr := ⟨_, rfl⟩
          obtain ⟨j, rfl, hj, hown, hgr, hvo⟩ := hrel
          by_cases hlt2 : j < n2
          · obtain ⟨ad2, yo, yc, rfl, hg2, cy0, cy1⟩ := (h2.grown hgr HSF.out).at_ hlt2
            have HG2 := Lib.hid hg2
            clear hg2
            have hxi := grow_blk hgr HX.out HXN.out
            have hxlt := cell_lt (blk_cell hxi 0 _ rfl)
            simp only at hxlt
            have hxc0 := blk_cell hxi 0 _ rfl
            have hxc1 := blk_cell hxi 1 _ rfl
            have hil := ink_le (xo, xc) (H.all lb) j
            have hcnt : (outk (H.all la) (H.all lb) k ++ ink (xo, xc) (H.all lb) j).length ≤ 100 := by rw [List.length_append]; have := HB.out.1; omega
            clear hil hxi
            have hbase : w2.heap.size ≤ wi.heap.size := Nat.le_trans hbw3.size hgr.size
            by_cases hxy : xo < yo
            · by_cases hcc : yc < xc
              · by_cases hoc : yo ≤ yc
                · go_wp2_with (at_builtin; refine app_win rfl (.tmp 58) (.tmp 60) rfl w2.heap.size _ _ _ rfl (((hown.alloc _).alloc _).alloc _) (wi.heap.size + 1 + 1) yo yc rfl (heap_alloc_at _ _ _ (by simp)) (by omega) (by simp; omega) ?_; intro v' w4 hown4 hgrow4 hat4)
                  go_roundw
                  case rel => exact ⟨j + 1, by go_num, by omega, by rw [ink_yes HG2.out (o := yo) (c := yc) (by simp; omega) (by simp; omega) hoc, ← List.append_assoc]; rw [List.length_append]; exact hown4, grow_step (grow_alloc (grow_alloc (grow_alloc hgr _) _) _) hgrow4 hvo, own_next hvo hat4 (Nat.le_trans hgr.size (by simp; omega))⟩
                  case measure => simp [intOf]; omega
                · go_wp2
                  go_roundw
                  case rel => exact ⟨j + 1, by go_num, by omega, by rw [ink_no HG2.out (o := yo) (c := yc) (by simp; omega) (by simp; omega) hoc]; exact (hown.alloc _).alloc _, grow_alloc (grow_alloc hgr _) _, hvo⟩
                  case measure => simp [intOf]; omega
              · by_cases hoc : yo ≤ xc
                · go_wp2_with (at_builtin; refine app_win rfl (.tmp 58) (.tmp 60) rfl w2.heap.size _ _ _ rfl (((hown.alloc _).alloc _).alloc _) (wi.heap.size + 1 + 1) yo xc rfl (heap_alloc_at _ _ _ (by simp)) (by omega) (by simp; omega) ?_; intro v' w4 hown4 hgrow4 hat4)
                  go_roundw
                  case rel => exact ⟨j + 1, by go_num, by omega, by rw [ink_yes HG2.out (o := yo) (c := xc) (by simp; omega) (by simp; omega) hoc, ← List.append_assoc]; rw [List.length_append]; exact hown4, grow_step (grow_alloc (grow_alloc (grow_alloc hgr _) _) _) hgrow4 hvo, own_next hvo hat4 (Nat.le_trans hgr.size (by simp; omega))⟩
                  case measure => simp [intOf]; omega
                · go_wp2
                  go_roundw
                  case rel => exact ⟨j + 1, by go_num, by omega, by rw [ink_no HG2.out (o := yo) (c := xc) (by simp; omega) (by simp; omega) hoc]; exact (hown.alloc _).alloc _, grow_alloc (grow_alloc hgr _) _, hvo⟩
                  case measure => simp [intOf]; omega
            · by_cases hcc : yc < xc
              · by_cases hoc : xo ≤ yc
                · go_wp2_with (at_builtin; refine app_win rfl (.tmp 58) (.tmp 60) rfl w2.heap.size _ _ _ rfl (((hown.alloc _).alloc _).alloc _) (wi.heap.size + 1 + 1) xo yc rfl (heap_alloc_at _ _ _ (by simp)) (by omega) (by simp; omega) ?_; intro v' w4 hown4 hgrow4 hat4)
                  go_roundw
                  case rel => exact ⟨j + 1, by go_num, by omega, by rw [ink_yes HG2.out (o := xo) (c := yc) (by simp; omega) (by simp; omega) hoc, ← List.append_assoc]; rw [List.length_append]; exact hown4, grow_step (grow_alloc (grow_alloc (grow_alloc hgr _) _) _) hgrow4 hvo, own_next hvo hat4 (Nat.le_trans hgr.size (by simp; omega))⟩
                  case measure => simp [intOf]; omega
                · go_wp2
                  go_roundw
                  case rel => exact ⟨j + 1, by go_num, by omega, by rw [ink_no HG2.out (o := xo) (c := yc) (by simp; omega) (by simp; omega) hoc]; exact (hown.alloc _).alloc _, grow_alloc (grow_alloc hgr _) _, hvo⟩
                  case measure => simp [intOf]; omega
              · by_cases hoc : xo ≤ xc
                · go_wp2_with (at_builtin; refine app_win rfl (.tmp 58) (.tmp 60) rfl w2.heap.size _ _ _ rfl (((hown.alloc _).alloc _).alloc _) (wi.heap.size + 1 + 1) xo xc rfl (heap_alloc_at _ _ _ (by simp)) (by omega) (by simp; omega) ?_; intro v' w4 hown4 hgrow4 hat4)
                  go_roundw
                  case rel => exact ⟨j + 1, by go_num, by omega, by rw [ink_yes HG2.out (o := xo) (c := xc) (by simp; omega) (by simp; omega) hoc, ← List.append_assoc]; rw [List.length_append]; exact hown4, grow_step (grow_alloc (grow_alloc (grow_alloc hgr _) _) _) hgrow4 hvo, own_next hvo hat4 (Nat.le_trans hgr.size (by simp; omega))⟩
                  case measure => simp [intOf]; omega
                · go_wp2
                  go_roundw
                  case rel => exact ⟨j + 1, by go_num, by omega, by rw [ink_no HG2.out (o := xo) (c := xc) (by simp; omega) (by simp; omega) hoc]; exact (hown.alloc _).alloc _, grow_alloc (grow_alloc hgr _) _, hvo⟩
                  case measure => simp [intOf]; omega
          · obtain rfl : j = n2 := by omega
            have HO := Lib.hid (outk_next HG.out (b := H.all lb) (j := j) (by rw [← h2.1]; exact Nat.le_refl _))
            go_wp2
            go_roundw
            case rel => exact ⟨k + 1, by go_num, by omega, by rw [HO.out]; exact hown, below_own2 hbw3 hgr (fun g e => (HR3B.out g e).2)⟩
            case measure => simp [intOf]; omega
      · obtain rfl : k = n1 := by omega
        have HF := HFIN.out
        rw [← h1.1] at HF
        obtain ⟨A0, c0, rfl, hrd0, hblk0⟩ := own_form hown
        have hw0 : Wins wo A0 (outk (H.all la) (H.all lb) k).length (outk (H.all la) (H.all lb) k) := ⟨rfl, hrd0⟩
        have HF2 := Lib.hid HF
        have hfb := bel hb hbr
        have hol := outk_le (H.all la) (H.all lb) k
        have hol2 : k * (H.all lb).length ≤ 36 := Nat.mul_le_mul (by omega : k ≤ 6) HB.out.1
        have hol3 : (outk (H.all la) (H.all lb) k).length ≤ 36 := by omega
        clear HF hol hol2 hrd0 hblk0 hown HFIN
        by_cases z0 : (outk (H.all la) (H.all lb) k).length = 0
        · have z1 := beq0_yes _ z0
          have HZ := Lib.hid z0
          clear z0
          go_wp2
          go_ret2
          exact ⟨⟨none, 0, 0, by rw [HF2.out, if_pos (.inl HZ.out)]; rfl, by rw [HF2.out, if_pos (.inl HZ.out)]; exact wins_nil _⟩, hfb⟩
        · have z1 := beq0_no _ z0
          by_cases z2 : 6 < (outk (H.all la) (H.all lb) k).length
          · have z4 : (6 : Int) < ((outk (H.all la) (H.all lb) k).length : Int) := by omega
            have HZ := Lib.hid z2
            go_wp2
            go_ret2
            exact ⟨⟨none, 0, 0, by rw [HF2.out, if_pos (.inr HZ.out)]; rfl, by rw [HF2.out, if_pos (.inr HZ.out)]; exact wins_nil _⟩, hfb⟩
          · have HZ := Lib.hid (show ¬ ((outk (H.all la) (H.all lb) k).length = 0 ∨ 6 < (outk (H.all la) (H.all lb) k).length) from fun h => h.elim z0 z2)
            have z3 := gt_no _ 6 z2
            clear z0
            go_wp2
            go_ret2
            exact ⟨⟨A0, _, c0, by rw [HF2.out, if_neg HZ.out]; rfl, by rw [HF2.out, if_neg HZ.out]; exact hw0⟩, hfb⟩
end Go.Proofs.Ytdbllcphopecjaa

