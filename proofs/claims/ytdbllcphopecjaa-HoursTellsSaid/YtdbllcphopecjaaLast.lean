/-
The walk of slices.Backward at windows, as an iterator, and of hours.Last.
-/
import Derived.RangeFuncNested
import Derived.RangeFuncBound
import Derived.RangeFuncCalls
import Derived.RangeFuncLeaves
import Derived.Shelf.Abstract
import Derived.Shelf.RegionOpen
import Derived.OwnWalkIn
import Derived.TacticsInMore
import Derived.LoopNIn
import Derived.LoopIn
import Derived.Test.YtdbllcphopecjaaH2
import Derived.Test.YtdbllcphopecjaaMem2
namespace Go.Proofs.Ytdbllcphopecjaa
open Go.RowKit Go.Shelf
attribute [local go_sem] Oper.semAt_some

/-- A window with its index, within the bounds of right windows. -/
abbrev IW := { x : Int × (Int × Int) // 0 ≤ x.2.1 ∧ x.2.1 ≤ x.2.2 ∧ x.2.2 ≤ 1000000 }
def iwWin (x : IW) : Int × Int := x.1.2
def iwEnc (x : IW) : Array Value := #[.int .i64 x.1.1, .agg #[.int .i64 x.1.2.1, .int .i64 x.1.2.2]]

theorem drop_snoc_rev {l : List (Int × Int)} {k : Nat} {x : Int × Int} (h : l[k]? = some x) : (l.drop k).reverse = (l.drop (k + 1)).reverse ++ [x] := by
  obtain ⟨hk, e⟩ := List.getElem?_eq_some_iff.1 h
  rw [List.drop_eq_getElem_cons hk, e, List.reverse_cons]

theorem Wins.low {B : Nat} {w w' : World} {A : Option Addr} {n : Nat} {l : List (Int × Int)} (h : Wins w A n l) (hb : Below B w w') (hA : ∀ ad, A = some ad → ad.block < B) : Wins w' A n l :=
  ⟨h.1, h.2.1, fun hn => by
    obtain ⟨ad, e, hc⟩ := h.2.2 hn
    exact ⟨ad, e, fun j u hu => (hb.cell (by rw [add_block]; exact hA ad e)).trans (hc j u hu)⟩⟩

set_option maxRecDepth 100000 in
set_option maxHeartbeats 2000000 in
/-- The closure of slices.Backward, for every loop body that keeps what lay below n0. -/
theorem back1_in (F : Fence) (n : Nat) (h8 : F.fn 55) (hro : F.round = none) (hn : 1 ≤ n) (l Bs n₀ : Nat) (A : Option Addr) (len cap : Nat) (L : List (Int × Int)) (hlen : len ≤ 1000) (J Jx : List IW → World → Prop)
    (hbd : ∀ p ∈ L, 0 ≤ p.1 ∧ p.1 ≤ p.2 ∧ p.2 ≤ 1000000)
    (hY : ∀ pre (x : IW) W, J pre W → pre.length < len → YieldAt F (n - 1) Try.prog l (iwEnc x) W fun e W' =>
      (e = .returned (.bool true) ∧ J (pre ++ [x]) W' ∧ Below n₀ W W') ∨ (e = .returned (.bool false) ∧ Jx (pre ++ [x]) W'))
    (W : World) (hBs : W.cell? ⟨Bs, 0, none⟩ = some (.slice A len cap)) (hBs0 : Bs < n₀) (hL : Wins W A len L) (hA : ∀ ad, A = some ad → ad.block < n₀) (h0 : J [] W) :
    CallsIn F n Try.prog 55 #[.func (.yield l) #[] #[], .pointer (some ⟨Bs, 0, none⟩)] W fun e W' => (∃ v, e = .returned v) ∧
      ((∃ ys : List IW, ys.map iwWin = L.reverse ∧ J ys W') ∨ (∃ pre : List IW, (∃ k, pre.map iwWin = (L.drop k).reverse) ∧ Jx pre W')) := by
  refine callsIn_of_wp Try.func55 rfl h8 ?_ hro
  simp only [Try.ntmps55, List.size_toArray, List.length_cons, List.length_nil, Nat.reduceAdd, Nat.reduceSub, Array.replicate_succ, Array.replicate_zero, List.push_toArray, List.append_toArray, List.nil_append, List.cons_append]
  gi_wp2
  gi_loopw [3] (fun i wr => ∃ (k : Nat) (ys : List IW), k ≤ len ∧ i = .int .i64 ((k : Int) - 1) ∧ ys.map iwWin = (L.drop k).reverse ∧ ys.length + k = len ∧ J ys wr ∧ Below n₀ W wr)
    (fun i _ => (intOf i + 1).toNat)
  case atStart => exact ⟨len, [], Nat.le_refl _, rfl, by rw [List.drop_eq_nil_of_le (by rw [← hL.1]; exact Nat.le_refl _)]; rfl, by simp, h0, Below.refl _ _⟩
  case round =>
    obtain ⟨k, ys, hk, rfl, hys, hyl, hJs, hnx⟩ := hrel
    have hBs' := (hnx.cell (p := ⟨Bs, 0, none⟩) hBs0).trans hBs
    cases k with
    | zero =>
      have hys' : ys.map iwWin = L.reverse := hys
      have HYS := Lib.hid hys'
      clear hys hys' hyl
      gi_wp2
      go_end0
      exact ⟨⟨_, rfl⟩, .inl ⟨_, HYS.out, hJs⟩⟩
    | succ k =>
      have hlt : k < len := by omega
      obtain ⟨ad, o, c, rfl, hg, c0, c1⟩ := (hL.low hnx hA).at_ hlt
      have hb3 := hbd _ (List.mem_of_getElem? hg)
      have HG := Lib.hid (drop_snoc_rev hg)
      obtain ⟨x, hxe, hxw⟩ : ∃ x : IW, iwEnc x = #[.int .i64 (k : Int), .agg #[.int .i64 o, .int .i64 c]] ∧ iwWin x = (o, c) := ⟨⟨((k : Int), (o, c)), hb3⟩, rfl, rfl⟩
      obtain ⟨fn, tmps, assign, body, hy, hR⟩ := hY ys x wr hJs (by omega)
      rw [hxe] at hy
      have HYS := Lib.hid hys
      have HXW := Lib.hid hxw
      clear hys hg hb3 hxe hxw
      have ek : ((k + 1 : Nat) : Int) - 1 = (k : Int) := by omega
      rw [ek]
      clear ek
      gi_wp2
      refine hR.mono ?_
      rintro e W3 (⟨rfl, hJ3, hk3⟩ | ⟨rfl, hJx3⟩)
      · gi_wp2
        go_roundw
        case rel => exact ⟨k, ys ++ [x], by omega, rfl, by rw [List.map_append, HYS.out, HG.out, List.map_singleton, HXW.out], by simp; omega, hJ3, hnx.trans hk3⟩
        case measure => simp [intOf]
      · gi_wp2
        refine bodyPost_ret (results_none rfl _ _ _) rfl ?_
        exact ⟨⟨_, rfl⟩, .inr ⟨_, ⟨k, by rw [List.map_append, HYS.out, HG.out, List.map_singleton, HXW.out]⟩, hJx3⟩⟩

set_option maxHeartbeats 1000000 in
theorem back_in (F : Fence) (n : Nat) (h5 : F.fn 50) (hro : F.round = none) (a : Option Addr) (len cap : Nat) (w : World) :
    CallsIn F n Try.prog 50 #[.slice a len cap] w fun e w' => e = .returned (.func (.func 55) #[] #[.pointer (some ⟨w.heap.size, 0, none⟩)]) ∧ w' = w.alloc (.cells #[.slice a len cap] 29) := by
  refine callsIn_of_wp Try.func50 rfl h5 ?_ hro
  simp only [Try.ntmps50, List.size_toArray, List.length_cons, List.length_nil, Nat.reduceAdd, Nat.reduceSub, Array.replicate_succ, Array.replicate_zero, List.push_toArray, List.append_toArray, List.nil_append, List.cons_append]
  gi_wp2
  go_ret
  exact ⟨rfl, rfl⟩

theorem back_stops (F : Fence) (n : Nat) (h8 : F.fn 55) (hro : F.round = none) (hn : 1 ≤ n) (Bs n₀ : Nat) (A : Option Addr) (len cap : Nat) (L : List (Int × Int)) (hlen : len ≤ 1000) (w : World) (hBs : Bs < n₀) (hn₀ : n₀ ≤ w.heap.size)
    (hbd : ∀ p ∈ L, 0 ≤ p.1 ∧ p.1 ≤ p.2 ∧ p.2 ≤ 1000000) (hc : w.cell? ⟨Bs, 0, none⟩ = some (.slice A len cap)) (hL : Wins w A len L) (hA : ∀ ad, A = some ad → ad.block < n₀) :
    SeqStopsK F n Try.prog 55 #[.pointer (some ⟨Bs, 0, none⟩)] iwEnc (Below n₀) (fun ys => ys.map iwWin = L.reverse) (fun pre => ∃ k, pre.map iwWin = (L.drop k).reverse) len w := fun l J Jx W hW _ _ hY h0 => by
  have hc' := (hW.cell (p := ⟨Bs, 0, none⟩) (Nat.lt_of_lt_of_le hBs hn₀)).trans hc
  refine (back1_in F n h8 hro hn l Bs n₀ A len cap L hlen J Jx hbd hY W hc' hBs (hL.below hW) hA h0).mono ?_
  rintro e W' ⟨he, ⟨ys, h1, hj⟩ | ⟨pre, h1, hj⟩⟩
  · exact ⟨he, .inl ⟨_, h1, hj⟩⟩
  · exact ⟨he, .inr ⟨_, h1, hj⟩⟩

theorem lastGo_app (y s : Int) (a b : List (Int × Int)) : H.lastGo y s (a ++ b) = if (H.lastGo y s a).2 then H.lastGo y s a else H.lastGo y s b := by
  induction a with
  | nil => simp [H.lastGo]
  | cons p a ih =>
    simp only [List.cons_append, H.lastGo]
    split
    · simp
    · exact ih

/-- Between two rounds of Last's loop. -/
def LastI (m n₀ : Nat) (w0 : World) (y s : Int) (b4 b5 b6 b7 : Nat) (pre : List IW) (W : World) : Prop :=
  m ≤ W.heap.size ∧ (Boxed W b4 3 (.int .i64 y) ∧ Boxed W b5 3 (.int .i64 s) ∧ Boxed W b6 3 (.int .i64 0) ∧ Boxed W b7 4 (.bool false)) ∧ H.lastGo y s (pre.map iwWin) = (0, false) ∧ Below n₀ w0 W
/-- When a round has returned. -/
def LastX (n₀ : Nat) (w0 : World) (y s : Int) (b6 b7 : Nat) (c : Code) (pre : List IW) (W : World) : Prop :=
  c = .ret ∧ ∃ v : Int, (Boxed W b6 3 (.int .i64 v) ∧ Boxed W b7 4 (.bool true)) ∧ H.lastGo y s (pre.map iwWin) = (v, true) ∧ Below n₀ w0 W

theorem lastGo_snoc {y s : Int} {pre : List IW} {x : IW} (h : H.lastGo y s (pre.map iwWin) = (0, false)) :
    ∀ v : Int, min y x.1.2.2 - s = v → H.lastGo y s ((pre ++ [x]).map iwWin) = if x.1.2.1 ≤ v then (v, true) else (0, false) := by
  intro v hv
  rw [List.map_append, lastGo_app, h]
  simp only [List.map_singleton, H.lastGo, iwWin, hv]
  rfl

theorem lastI_own (m n₀ B : Nat) (w0 : World) (y s : Int) (b4 b5 b6 b7 : Nat) (h1 : n₀ ≤ w0.heap.size) (h2 : n₀ ≤ B) : OwnFrom B (LastI m n₀ w0 y s b4 b5 b6 b7) := by
  intro pre W W' row h hg hr
  obtain ⟨hm, ⟨g4, g5, g6, g7⟩, hl, hb⟩ := h
  have k : ∀ {b t v}, Boxed W b t v → Boxed W' b t v := fun {b t v} hx => (boxed_own (β := Unit) b t (fun _ => v)) () W W' row hx hg (fun r e => (hr r e).2)
  exact ⟨Nat.le_trans hm hg.size, ⟨k g4, k g5, k g6, k g7⟩, hl, hb.grown hg (Nat.le_trans h1 hb.size) (fun r e => Nat.le_trans h2 (hr r e).1)⟩

theorem lastX_own (n₀ B : Nat) (w0 : World) (y s : Int) (b6 b7 : Nat) (c : Code) (h1 : n₀ ≤ w0.heap.size) (h2 : n₀ ≤ B) : OwnFrom B (LastX n₀ w0 y s b6 b7 c) := by
  intro pre W W' row h hg hr
  obtain ⟨hc, v, ⟨g6, g7⟩, hl, hb⟩ := h
  have k : ∀ {b t v}, Boxed W b t v → Boxed W' b t v := fun {b t v} hx => (boxed_own (β := Unit) b t (fun _ => v)) () W W' row hx hg (fun r e => (hr r e).2)
  exact ⟨hc, v, ⟨k g6, k g7⟩, hl, hb.grown hg (Nat.le_trans h1 hb.size) (fun r e => Nat.le_trans h2 (hr r e).1)⟩

theorem boxed_at (w : World) (t : TypeId) (v : Value) (g : Nat) (hg : g = w.heap.size) : Boxed (w.alloc (.cells #[v] t)) g t v := by subst hg; exact Boxed.new w t v

theorem wins_lt {w : World} {A : Option Addr} {n : Nat} {l : List (Int × Int)} (h : Wins w A n l) (hn : 0 < l.length) : ∀ ad, A = some ad → ad.block < w.heap.size := by
  intro ad e
  obtain ⟨ad', o, c, e', _, h0, _⟩ := h.at_ (k := 0) (by rw [h.1]; exact hn)
  rw [e] at e'
  injection e' with e'
  subst e'
  have := cell_lt h0
  rw [add_block] at this
  exact this

theorem below_four (w : World) (o1 o2 o3 o4 : Obj) : Below w.heap.size w ((((w.alloc o1).alloc o2).alloc o3).alloc o4) :=
  ((((Below.refl _ _).alloc (Nat.le_refl _) _).alloc (by simp) _).alloc (by simp; omega) _).alloc (by simp; omega) _

set_option maxRecDepth 100000 in
set_option maxHeartbeats 4000000 in
theorem last_in (n0 : Nat) (hn0 : 10 ≤ n0) (A : Option Addr) (n c : Nat) (l : List (Int × Int)) (y s : Int) (w : World) (hl : Wins w A n l) (hr : H.right l = true) (ht : 0 ≤ y ∧ y ≤ 1000000) (hs : 0 ≤ s ∧ s ≤ 1000000) :
    CallsIn Fence.wide n0 Try.prog 31 #[.slice A n c, .int .i64 y, .int .i64 s] w fun e w' => e = .returned (.tuple #[.int .i64 (H.lastGo y s (H.all l).reverse).1, .bool (H.lastGo y s (H.all l).reverse).2]) ∧ Below w.heap.size w w' := by
  have hn : n ≤ 6 := by have := (H.right_bd hr).1; rw [hl.1]; exact this
  have hm1 : H.minute y = true := by simp [H.minute]; omega
  have hm2 : H.minute s = true := by simp [H.minute]; omega
  have HBD := Lib.hid (H.all_bd hr)
  have HR := Lib.hid hr
  obtain ⟨y0, y1⟩ := ht
  obtain ⟨s0, s1⟩ := hs
  have h1 : 1 ≤ n0 := by omega
  clear hr
  refine callsIn_of_wp_marks Try.func31 rfl trivial ?_ rfl
  simp only [Try.ntmps31, List.size_toArray, List.length_cons, List.length_nil, Nat.reduceAdd, Nat.reduceSub, Array.replicate_succ, Array.replicate_zero, List.push_toArray, List.append_toArray, List.nil_append, List.cons_append]
  gi_wp2_with fail
  refine ⟨trivial, ?_⟩
  refine (callsIn_wide.2 (hright_any A n c l _ (hl.below (below_four w _ _ _ _)) (by omega))).mono ?_
  rw [HR.out]
  rintro e w1 ⟨rfl, hb1⟩
  have hb0 : Below w.heap.size w w1 := bel (below_four w _ _ _ _) hb1
  have b4 : Boxed w1 w.heap.size 3 (.int .i64 y) := blk_below hb1 (((Boxed.new w 3 _).alloc _).alloc _ |>.alloc _)
  have b5 : Boxed w1 (w.heap.size + 1) 3 (.int .i64 s) := blk_below hb1 (((boxed_at _ 3 _ _ (by simp)).alloc _).alloc _)
  have b6 : Boxed w1 (w.heap.size + 1 + 1) 3 (.int .i64 0) := blk_below hb1 ((boxed_at _ 3 _ _ (by simp)).alloc _)
  have b7 : Boxed w1 (w.heap.size + 1 + 1 + 1) 4 (.bool false) := blk_below hb1 (boxed_at _ 4 _ _ (by simp))
  have hs1 : w.heap.size + 1 + 1 + 1 < w1.heap.size := b7.lt
  have B4 := Lib.hid b4; have B5 := Lib.hid b5; have B6 := Lib.hid b6; have B7 := Lib.hid b7
  have x4 := b4.cell; have x5 := b5.cell
  clear b4 b5 b6 b7 hb1
  gi_wp2_with (first
    | (refine ⟨trivial, ?_⟩; gi_at_call 46; refine (callsIn_wide.2 (minute_any _ _)).mono ?_; rintro e w2 ⟨rfl, rfl⟩))
  refine ⟨trivial, ?_⟩
  refine (callsIn_wide.2 (all_any A n c l _ (hl.below hb0) (by omega))).mono ?_
  rintro e w2 ⟨A1, n1, c1, rfl, h1a, hb2⟩
  have hn1 : n1 ≤ 6 := by rw [h1a.1]; exact HBD.out.1
  have b4 : Boxed w2 w.heap.size 3 (.int .i64 y) := blk_below hb2 B4.out
  have b5 : Boxed w2 (w.heap.size + 1) 3 (.int .i64 s) := blk_below hb2 B5.out
  have b6 : Boxed w2 (w.heap.size + 1 + 1) 3 (.int .i64 0) := blk_below hb2 B6.out
  have b7 : Boxed w2 (w.heap.size + 1 + 1 + 1) 4 (.bool false) := blk_below hb2 B7.out
  have hs2 : w.heap.size + 1 + 1 + 1 < w2.heap.size := b7.lt
  have hA1 : ∀ ad, A1 = some ad → ad.block < w2.heap.size := wins_lt h1a (H.all_len l).1
  have hbw2 : Below w.heap.size w w2 := bel hb0 hb2
  have B4' := Lib.hid b4; have B5' := Lib.hid b5; have B6' := Lib.hid b6; have B7' := Lib.hid b7; have HA1 := Lib.hid hA1
  clear b4 b5 b6 b7 hA1 x4 x5 B4 B5 B6 B7
  gi_wp2_with (refine ⟨trivial, ?_⟩; gi_at_call 50; refine (back_in Fence.wide _ trivial rfl _ _ _ _).mono ?_; rintro e w3 ⟨rfl, rfl⟩)
  refine wpIn_rangeFunc_ownH rfl h1 (gf := 55) (lb := #[.pointer (some ⟨w2.heap.size, 0, none⟩)]) rfl trivial (enters_of Try.func55 (by kernel_rfl) rfl)
    (back_stops Fence.wide (n0 - 1) trivial rfl (by omega) w2.heap.size (w2.heap.size + 1) A1 n1 c1 (H.all l) (by omega) _ (by omega) (by simp) HBD.out.2 (by rw [World.cell?_alloc_new]; rfl)
      (h1a.below ((Below.refl _ _).alloc (Nat.le_refl _) _)) (fun ad e => Nat.lt_succ_of_lt (HA1.out ad e))) belowK_t (belowK_b (by simp)) (Below.refl _ _) (fun _ => rfl)
    (LastI (w2.heap.size + 1) w.heap.size w y s w.heap.size (w.heap.size + 1) (w.heap.size + 1 + 1) (w.heap.size + 1 + 1 + 1)) (LastX w.heap.size w y s (w.heap.size + 1 + 1) (w.heap.size + 1 + 1 + 1))
    (lastI_own _ _ _ _ _ _ _ _ _ _ (Nat.le_refl _) (by simp; omega)) (fun c => lastX_own _ _ _ _ _ _ _ c (Nat.le_refl _) (by simp; omega))
    ⟨by simp, ⟨B4'.out.alloc _, B5'.out.alloc _, B6'.out.alloc _, B7'.out.alloc _⟩, rfl, hbw2.alloc hbw2.size _⟩
    (fun x a' W => ∃ Bx, W.heap[Bx]? = some (.cells #[.int .i64 x.1.2.1, .int .i64 x.1.2.2] 56 (0, 0)) ∧ a' = ⟨#[Value.slice A n c, Value.int IntKind.i64 y, Value.int IntKind.i64 s, undef,
          Value.pointer (some ⟨w.heap.size, 0, none⟩), Value.pointer (some ⟨w.heap.size + 1, 0, none⟩), Value.pointer (some ⟨w.heap.size + 1 + 1, 0, none⟩), Value.pointer (some ⟨w.heap.size + 1 + 1 + 1, 0, none⟩),
          undef, Value.pointer (some ⟨Bx, 0, none⟩), undef, Value.slice A n c, Value.bool true, Value.bool false, Value.bool false, Value.int IntKind.i64 y, Value.bool true,
          Value.bool false, Value.bool false, Value.bool false, Value.int IntKind.i64 s, Value.bool true, Value.bool false, Value.bool false, Value.slice A n c, Value.slice A1 n1 c1,
          Value.func (Fn.func 55) #[] #[Value.pointer (some ⟨w2.heap.size, 0, none⟩)], .int .i64 x.1.1, .agg #[.int .i64 x.1.2.1, .int .i64 x.1.2.2], undef,
          undef, undef, undef, undef, undef, undef, undef, undef, undef, undef], []⟩)
    ?hAx ?assign ?body ?done ?stop
  case hAx =>
    rintro x a' u W W' row ⟨Bx, hx, rfl⟩ hg hrow
    refine ⟨Bx, (hg.block Bx (Array.getElem?_eq_some_iff.1 hx).1 ?_).trans hx, rfl⟩
    intro e
    obtain ⟨_, o, ho, hc⟩ := hrow Bx e.symm
    rw [hx] at ho
    injection ho with ho
    subst ho
    cases hc
  case assign =>
    rintro lb pre ⟨⟨i, o, d⟩, hx⟩ W K hi hK
    simp only [iwEnc]
    gi_wp2
    obtain ⟨hm, ⟨g4, g5, g6, g7⟩, hl, hb⟩ := hi
    exact hK _ _ ((KeepsOthers.alloc _ _).from _) ((Below.refl _ W).alloc hm _) ⟨by simp; omega, ⟨g4.alloc _, g5.alloc _, g6.alloc _, g7.alloc _⟩, hl, hb.alloc hb.size _⟩ ⟨W.heap.size, heap_alloc_new W _, rfl⟩
  case body =>
    rintro lb pre x a' W _ _ ⟨hm, ⟨g4, g5, g6, g7⟩, hl, hb⟩ ⟨Bx, hbx, rfl⟩ _
    obtain ⟨o0, od, d1⟩ := x.2
    have hgo := lastGo_snoc (x := x) hl
    generalize x.1.2.1 = o at *
    generalize x.1.2.2 = d at *
    generalize x.1.1 = i at *
    have HGO := Lib.hid hgo
    clear hgo
    have x4 := g4.cell; have x5 := g5.cell; have x6 := g6.cell; have x7 := g7.cell
    have f6 := g6.frozen; have f7 := g7.frozen
    have k0 := blk_cell hbx 0 _ rfl
    have k1 := blk_cell hbx 1 _ rfl
    have G6 := Lib.hid g6; have G7 := Lib.hid g7; have HL := Lib.hid hl
    have hlt6 := g6.lt; have hlt7 := g7.lt
    clear hl hbx
    by_cases hdy : d < y
    · by_cases ho : o ≤ d - s
      · gi_wp2
        refine ⟨((KeepsOthers.setCell _ _ _).trans (KeepsOthers.setCell _ _ _)).from _, rfl, d - s, ⟨(G6.out.set _).other (by omega) _, (G7.out.other (by omega) _).set _⟩, ?_, (hb.setCell (p := ⟨w.heap.size + 1 + 1, 0, none⟩) (by simp; omega) _).setCell (p := ⟨w.heap.size + 1 + 1 + 1, 0, none⟩) (by simp; omega) _⟩
        rw [HGO.out (d - s) (by omega), if_pos ho]
      · gi_wp2
        exact ⟨KeepsFrom.refl _ _, Below.refl _ _, hm, ⟨g4, g5, G6.out, G7.out⟩, by rw [HGO.out (d - s) (by omega), if_neg (by omega)], hb⟩
    · by_cases ho : o ≤ y - s
      · gi_wp2
        refine ⟨((KeepsOthers.setCell _ _ _).trans (KeepsOthers.setCell _ _ _)).from _, rfl, y - s, ⟨(G6.out.set _).other (by omega) _, (G7.out.other (by omega) _).set _⟩, ?_, (hb.setCell (p := ⟨w.heap.size + 1 + 1, 0, none⟩) (by simp; omega) _).setCell (p := ⟨w.heap.size + 1 + 1 + 1, 0, none⟩) (by simp; omega) _⟩
        rw [HGO.out (y - s) (by omega), if_pos ho]
      · gi_wp2
        exact ⟨KeepsFrom.refl _ _, Below.refl _ _, hm, ⟨g4, g5, G6.out, G7.out⟩, by rw [HGO.out (y - s) (by omega), if_neg (by omega)], hb⟩
  case done =>
    rintro D xs W hD hxs ⟨hm, ⟨g4, g5, g6, g7⟩, hl, hb⟩ hK
    have x6 := g6.cell; have x7 := g7.cell
    have f6 := g6.frozen; have f7 := g7.frozen
    gi_wp2
    have hKD := (KeepsOthers.setCell _ ⟨w.heap.size + 1 + 1 + 1, 0, none⟩ (.bool false)).same D _ ((KeepsOthers.setCell W ⟨w.heap.size + 1 + 1, 0, none⟩ (.int .i64 0)).same D _ hK rfl) rfl
    have e6 := ((g6.set (.int .i64 0)).other (show w.heap.size + 1 + 1 ≠ w.heap.size + 1 + 1 + 1 by omega) (.bool false))
    have e7 := ((g7.other (show w.heap.size + 1 + 1 + 1 ≠ w.heap.size + 1 + 1 by omega) (.int .i64 0)).set (.bool false))
    have hbb := (hb.setCell (p := ⟨w.heap.size + 1 + 1, 0, none⟩) (by simp; omega) (.int .i64 0)).setCell (p := ⟨w.heap.size + 1 + 1 + 1, 0, none⟩) (by simp; omega) (.bool false)
    refine ⟨by simp, .inl ⟨_, _, rfl, run_takeDeferred hKD, ?_⟩⟩
    have c6 := cell_kept e6.cell (grownBy_putObj' _ D (.deferred none)) (fun r e => by cases e; exact ⟨_, hKD, rfl⟩)
    have c7 := cell_kept e7.cell (grownBy_putObj' _ D (.deferred none)) (fun r e => by cases e; exact ⟨_, hKD, rfl⟩)
    refine ⟨.tuple #[.int .i64 0, .bool false], by simp [results, Try.results31, go_sem, c6, c7], ?_, hbb.trans (belowK_b (w := w) (Nat.le_refl _) _ D _ _ (by simp at hD; omega) hKD rfl rfl)⟩
    have hxs' : xs.map iwWin = (H.all l).reverse := hxs
    rw [hxs'] at hl
    rw [hl]
  case stop =>
    rintro D c0 pre W hD ⟨k, hk⟩ ⟨rfl, v, ⟨g6, g7⟩, hl, hb⟩ hK
    gi_wp2
    refine ⟨by simp, .inl ⟨_, _, rfl, run_takeDeferred hK, ?_⟩⟩
    have c6 := cell_kept g6.cell (grownBy_putObj' _ D (.deferred none)) (fun r e => by cases e; exact ⟨_, hK, rfl⟩)
    have c7 := cell_kept g7.cell (grownBy_putObj' _ D (.deferred none)) (fun r e => by cases e; exact ⟨_, hK, rfl⟩)
    refine ⟨.tuple #[.int .i64 v, .bool true], by simp [results, Try.results31, go_sem, c6, c7], ?_, hb.trans (belowK_b (w := w) (Nat.le_refl _) _ D _ _ (by simp at hD; omega) hK rfl rfl)⟩
    have : H.lastGo y s (H.all l).reverse = (v, true) := by
      have e : (H.all l).reverse = ((H.all l).drop k).reverse ++ ((H.all l).take k).reverse := by
        rw [← List.reverse_append, List.take_append_drop]
      rw [e, lastGo_app, ← hk, hl]
      rfl
    rw [this]

end Go.Proofs.Ytdbllcphopecjaa
