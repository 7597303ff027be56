/-
The walk of the law TourHeavy.
-/
import Derived.Test.YtjcdpfpdjcannaaBE
import Derived.Test.YtjcdpfpdjcannaaK12
import Derived.Test.YtjcdpfpdjcannaaL1
namespace Go.Proofs.Ytjcdpfpdjcannaa
open Go.RowKit

theorem Try.info41 : (Try.prog.info? 41).map (fun i => (i.zero, i.size, i.bytes)) = some (some (.agg #[.int .i64 0, .int .i64 0, .int .i64 0, .int .i64 0, .int .i64 0, .int .i64 0, .slice none 0 0]), 7, 72) := by kernel_rfl

theorem reqCells_one : ∀ (l : List Q), ∀ u ∈ reqCells l, u.oneCell' = true := by
  intro l
  induction l with
  | nil => intro u hu; cases hu
  | cons q l ih =>
    intro u hu
    simp only [reqCells, List.mem_cons] at hu
    rcases hu with rfl | rfl | rfl | rfl | rfl | rfl | rfl | hu
    iterate 7 rfl
    exact ih u hu

theorem reqCells_set (t : Int) : ∀ (l : List Q) (k : Nat) (q : Q), l[k]? = some q → (reqCells l).set (k * 7 + 2) (.int .i64 t) = reqCells (l.set k { q with kilos := t }) := by
  intro l
  induction l with
  | nil => intro k q h; simp at h
  | cons y l ih =>
    intro k q h
    cases k with
    | zero => simp at h; subst h; simp [reqCells]
    | succ k =>
      have := ih k q (by simpa using h)
      rw [show (k + 1) * 7 + 2 = k * 7 + 2 + 1 + 1 + 1 + 1 + 1 + 1 + 1 by omega]
      simp only [reqCells, List.set_cons_succ]
      rw [this]

theorem Shf.grown_ {w w' : World} {b : Nat} {s : S} {r : Option Nat} (h : Shf w b s) (hg : w.grownBy w' r) (hne : some b ≠ r) : Shf w' b s := grow_blk hg h hne

theorem Rd.set {w : World} {size n : Nat} {A : Option Addr} {xs : List Value} (h : Rd w size A n xs) {g i : Nat} (u : Value) (hA : ∀ ad, A = some ad → ad.block ≠ g) : Rd (w.setCell ⟨g, i, none⟩ u) size A n xs :=
  ⟨h.1, fun h0 => by
    obtain ⟨ad, e, hc⟩ := h.2 h0
    exact ⟨ad, e, fun j y hy => (World.cell?_of_block (Below.heap_setCell w ⟨g, i, none⟩ u _ (by rw [add_block]; exact hA ad e))).trans (hc j y hy)⟩⟩

/-- The lighter case lies in this world. -/
structure HeavyAt (x : C) (o : List Int) (lb : Nat) (A : Option Addr) (wc : World) (s' : S) (r' : List Q) : Prop where
  shf : Shf wc lb s'
  rooms : Ints wc s'.A s'.n s'.l
  reqs : Reqs wc A x.m r'
  n : s'.n ≤ 1000000000
  qn : ∀ q ∈ r', q.n ≤ 1000000000
  better : K.Better x.nd x.l x.s x.r o s' r' o ∧ K.Ahead (K.run x.nd x.l s' r' o).tour.times (K.run x.nd x.l x.s x.r o).tour.times

theorem Shf.set2 {w : World} {b : Nat} {s : S} (h : Shf w b s) (u : Int) : Shf (w.setCell ⟨b, 2, none⟩ (.int .i64 u)) b { s with start := u } := blk_set h 2 _
theorem Shf.set4' {w : World} {b : Nat} {s : S} (h : Shf w b s) (u : Int) : Shf (w.setCell ⟨b, 4, none⟩ (.int .i64 u)) b { s with tare := u } := blk_set h 4 _

set_option maxRecDepth 100000 in
set_option maxHeartbeats 16000000 in
theorem heavy_any (x : C) (V : Option Addr) (vn vc : Nat) (o : List Int) (which bb : Int) (w : World) (hN : Roads w x.A x.n x.l) (hS0 : Ints w x.s.A x.s.n x.s.l) (hQ : Reqs w x.B x.m x.r) (hV : Ints w V vn o) (hwh : (Lit.int .u8 which).wf = true) (hbb : bb ≤ 9223372036854775807) :
    Calls Try.prog 7 #[.agg #[.int .i64 x.nd, .slice x.A x.n x.c], .agg #[.int .i64 x.s.day, .int .i64 x.s.depot, .int .i64 x.s.start, .int .i64 x.s.end_, .int .i64 x.s.tare, .slice x.s.A x.s.n x.s.c], .slice x.B x.m x.d, .slice V vn vc, .int .u8 which, .int .i64 bb] w fun e w' => e = .returned (.bool true) ∧ Below w.heap.size w w' := by
  obtain ⟨w1, hw1⟩ : ∃ w1 : World, w1 = w.alloc (.cells #[.int .i64 x.nd, .slice x.A x.n x.c] 24) := ⟨_, rfl⟩
  obtain ⟨w2, hw2⟩ : ∃ w2 : World, w2 = w1.alloc (.cells #[.int .i64 x.s.day, .int .i64 x.s.depot, .int .i64 x.s.start, .int .i64 x.s.end_, .int .i64 x.s.tare, .slice x.s.A x.s.n x.s.c] 27) := ⟨_, rfl⟩
  have z1 : w1.heap.size = w.heap.size + 1 := by rw [hw1]; exact World.size_alloc _ _
  have b01 : Below w.heap.size w w1 := by rw [hw1]; exact (Below.refl _ _).alloc (Nat.le_refl _) _
  have b12 : Below w1.heap.size w1 w2 := by rw [hw2]; exact (Below.refl _ _).alloc (Nat.le_refl _) _
  have hP : Net w2 w.heap.size x.nd x.A x.n x.c := by
    have h1 : Net w1 w.heap.size x.nd x.A x.n x.c := by rw [hw1]; exact Net.new _ _ _ _ _
    exact h1.below b12
  have hS : Shf w2 (w.heap.size + 1) x.s := by rw [← z1, hw2]; exact Shf.new _ _
  have hb := bel b01 b12
  go_enter Try.func7, Try.ntmps7
  go_wp2_with fail
  rw [← hw1, ← hw2]
  clear hw1 hw2 z1 b01 b12
  refine (small_any _).mono ?_
  rintro e w3 ⟨rfl, b3⟩
  have hP := hP.below b3
  have hS := hS.below b3
  have hb := bel hb b3
  clear b3
  have p0 := hP.c0
  have p1 := hP.c1
  obtain ⟨s0, s1, s2, s3, s4, s5⟩ := hS.cells
  go_wp2_with fail
  refine (few30_any x _ (hQ.below hb)).mono ?_
  rintro e w4 ⟨rfl, b4⟩
  have hP := hP.below b4
  have hS := hS.below b4
  have hb := bel hb b4
  clear b4 p0 p1 s0 s1 s2 s3 s4 s5
  have p0 := hP.c0
  have p1 := hP.c1
  obtain ⟨s0, s1, s2, s3, s4, s5⟩ := hS.cells
  cases hf : K.few30 x.nd x.n x.s x.r
  · clear hf
    go_wp2_with fail
    go_ret
    exact ⟨rfl, hb⟩
  obtain ⟨hf1, hf2, hf3, hf4⟩ := K.few_parts hf
  have hx : At w x := ⟨hN, hS0, hQ, by omega, by omega, by rw [hQ.1]; omega, fun q hq => by have := hf4 q hq; omega⟩
  have hm6 : x.m ≤ 6 := by rw [hQ.1]; exact hf3
  clear hf1 hf2 hf3 hf4 hf
  by_cases hv6 : 6 < vn
  · go_wp2_with fail
    go_ret
    exact ⟨rfl, hb⟩
  have hv6' : decide ((6 : Int) < (vn : Int)) = false := by simp; omega
  by_cases hbb0 : bb < 0
  · go_wp2_with fail
    go_ret
    exact ⟨rfl, hb⟩
  have hbbn : decide (bb < 0) = false := by simp; omega
  have hbb1 : 0 ≤ bb := by omega
  go_wp2_with fail
  refine (run_any x V vn vc o _ (hx.below hb) (hV.below hb) (by omega)).mono ?_
  rintro e w5 ⟨⟨A1, n1, c1, A2, n2, c2, rfl, hI1, hI2, -⟩, b5⟩
  have hP := hP.below b5
  have hS := hS.below b5
  have hb := bel hb b5
  clear b5 p0 p1 s0 s1 s2 s3 s4 s5
  obtain ⟨R, hR⟩ : ∃ R, R = K.run x.nd x.l x.s x.r o := ⟨_, rfl⟩
  rw [← hR] at hI1 hI2 ⊢
  have HR := Lib.hid hR
  clear hR
  obtain ⟨w6, hw6⟩ : ∃ w6 : World, w6 = w5.alloc (.cells #[.int .i64 0, .slice A1 n1 c1, .slice A2 n2 c2, .int .i64 R.tour.end_] 30) := ⟨_, rfl⟩
  have b6 : Below w5.heap.size w5 w6 := by rw [hw6]; exact (Below.refl _ _).alloc (Nat.le_refl _) _
  have hT : TBlk w6 w5.heap.size 0 (.slice A1 n1 c1) (.slice A2 n2 c2) R.tour.end_ := by rw [hw6]; exact heap_alloc_new _ _
  have hP := hP.below b6
  have hS := hS.below b6
  have hb := bel hb b6
  have hI1 := hI1.below b6
  have hI2 := hI2.below b6
  clear b6
  have hwi : 0 ≤ which ∧ which ≤ 255 := by
    simp [Lit.wf] at hwh
    exact hwh
  obtain ⟨hw0, hw255⟩ := hwi
  obtain ⟨k, hk⟩ : ∃ k : Nat, which % ((x.m : Int) + 2) = (k : Int) := ⟨(which % ((x.m : Int) + 2)).toNat, by have := Int.emod_nonneg which (show ((x.m : Int) + 2) ≠ 0 by omega); omega⟩
  have hkv : k < x.m + 2 := by have := Int.emod_lt_of_pos which (show (0 : Int) < (x.m : Int) + 2 by omega); omega
  have hrem : which.tmod ((x.m : Int) + 2) = (k : Int) := by rw [Int.tmod_eq_emod_of_nonneg hw0]; exact hk
  have hoL : vn = o.length := hV.1
  obtain ⟨t0, t1, t2, t3⟩ := hT.cells
  cases e1 : (R.e == 0)
  · have e1' : (R.e != 0) = true := by simp [bne, e1]
    clear hk
    go_wp2_with fail
    go_ret
    exact ⟨rfl, by rw [← hw6]; exact hb⟩
  have e1' : (R.e != 0) = false := by simp [bne, e1]
  have hR0 : (K.run x.nd x.l x.s x.r o).e = 0 := by rw [← HR.out]; simpa using e1
  have hRk := K.run_ok hR0
  have HR0 := Lib.hid hR0
  have hn2 : n2 = vn := by rw [hI2.1, HR.out, hRk.2.2.2]; exact ((K.legs_full o [] x.s.depot x.s.start).1 hRk.2.1).trans hoL.symm
  have HN2 := Lib.hid hn2
  have HOL := Lib.hid hoL
  obtain ⟨hne, hld, hdp, hno⟩ := K.right_parts hRk.1
  obtain ⟨hck, hset, hall⟩ := T.load_parts hld
  obtain ⟨-, ⟨d0, d1⟩, st0, st1, en1⟩ := K.check_parts hck
  obtain ⟨ta0, ta1⟩ := (T.check_rooms hck).2.1
  have HALL := Lib.hid hall
  have HK := Lib.hid hk
  clear hne hld hno hck hset hall hRk hR0 hoL hn2 e1 hk
  have hlit : ((w6.alloc (.cells #[.int .i64 x.s.day, .int .i64 x.s.depot, .int .i64 x.s.start, .int .i64 x.s.end_, .int .i64 x.s.tare, .slice x.s.A x.s.n x.s.c] 27)).alloc (.cells #[] 41)).ownsRow (w6.heap.size + 1) 41 7 (.slice (some ⟨w6.heap.size + 1, 0, none⟩) 0 0) 0 [] := by
    have h := World.ownsRow_lit (w6.alloc (.cells #[.int .i64 x.s.day, .int .i64 x.s.depot, .int .i64 x.s.start, .int .i64 x.s.end_, .int .i64 x.s.tare, .slice x.s.A x.s.n x.s.c] 27)) (e := 41) (size := 7) #[] 0 (Nat.le_refl _) (by simp only [maxLen]; omega) (by simp)
    rw [World.size_alloc] at h
    exact h
  obtain ⟨i0, hi, hz0, hz1, hz2⟩ := info_parts Try.info41
  have b67 : Below w6.heap.size w6 ((w6.alloc (.cells #[.int .i64 x.s.day, .int .i64 x.s.depot, .int .i64 x.s.start, .int .i64 x.s.end_, .int .i64 x.s.tare, .slice x.s.A x.s.n x.s.c] 27)).alloc (.cells #[] 41)) := ((Below.refl _ _).alloc (Nat.le_refl _) _).alloc (by rw [World.size_alloc]; omega) _
  have hL0 : Shf ((w6.alloc (.cells #[.int .i64 x.s.day, .int .i64 x.s.depot, .int .i64 x.s.start, .int .i64 x.s.end_, .int .i64 x.s.tare, .slice x.s.A x.s.n x.s.c] 27)).alloc (.cells #[] 41)) w6.heap.size x.s := blk_alloc (Shf.new w6 x.s) _
  have hRq6 := (hx.reqs.below hb).below b67
  obtain ⟨s0, s1, s2, s3, s4, s5⟩ := hS.cells
  have hsz7 : ((w6.alloc (.cells #[.int .i64 x.s.day, .int .i64 x.s.depot, .int .i64 x.s.start, .int .i64 x.s.end_, .int .i64 x.s.tare, .slice x.s.A x.s.n x.s.c] 27)).alloc (.cells #[] 41)).heap.size = w6.heap.size + 1 + 1 := by rw [World.size_alloc, World.size_alloc]
  have z6 : w6.heap.size = w5.heap.size + 1 := by rw [hw6]; exact World.size_alloc _ _
  have HB67 := Lib.hid b67
  have HL0 := Lib.hid hL0
  clear b67 hL0
  rw [hw6] at s0 s1 s2 s3 s4 s5 hRq6
  rw [z6, hw6] at hlit
  have hb9 : w6.heap.size + 1 ≤ ((w6.alloc (.cells #[.int .i64 x.s.day, .int .i64 x.s.depot, .int .i64 x.s.start, .int .i64 x.s.end_, .int .i64 x.s.tare, .slice x.s.A x.s.n x.s.c] 27)).alloc (.cells #[] 41)).heap.size := by rw [hsz7]; omega
  rw [z6, hw6] at hb9
  have Z6 := Lib.hid z6
  clear z6
  have HSZ7 := Lib.hid hsz7
  clear hsz7
  go_upto_if 65 with (at_builtin; refine wp_append_rd rfl (.tmp 53) (.tmp 54) 28 rfl (w5.heap.size + 1 + 1) 41 i0 (.agg #[.int .i64 0, .int .i64 0, .int .i64 0, .int .i64 0, .int .i64 0, .int .i64 0, .slice none 0 0]) 7 72 Try.underlying28 hi hz0 hz1 hz2 rfl (by decide) (.slice (some ⟨w5.heap.size + 1 + 1, 0, none⟩) 0 0) 0 [] rfl hlit x.B x.m x.d (reqCells x.r) rfl hRq6.2.1 (reqCells_one x.r) (by simp only [maxLen]; omega) (by omega) hb9 ?_; intro v' w7 hown7 hgrow7 hat7)
  rw [Nat.zero_add, List.nil_append] at hown7
  rw [← hw6] at hgrow7
  have HLITG : ∀ g, (Value.slice (some ⟨w5.heap.size + 1 + 1, 0, none⟩) 0 0).ownBlock = some g → w6.heap.size + 1 ≤ g := fun g e => by injection e with e; have := Z6.out; dsimp only at e; omega
  have hb7 := HB67.out.grown hgrow7 (by rw [HSZ7.out]; omega) (fun g h => by have := HLITG g h; omega)
  have hL7 : Shf w7 w6.heap.size x.s := HL0.out.grown_ hgrow7 (fun e => by have := HLITG _ e.symm; omega)
  obtain ⟨A7, c7, rfl, hRd7, hg7⟩ := own_form hown7
  have hRq7 : Reqs w7 A7 x.m x.r := ⟨hx.reqs.1, hRd7, fun q hq => ((hx.reqs.2.2 q hq).below hb).below hb7⟩
  clear s0 s1 s2 s3 s4 s5
  have hS7 := hS.below hb7
  obtain ⟨s0, s1, s2, s3, s4, s5⟩ := hS7.cells
  have hT7 := hT.below hb7
  rw [← Z6.out]
  clear hw6 hlit hgrow7 hat7 hRq6 hb9
  go_cut [65, 66] from 67 to 93 (fun _ _ wc => ∃ s' r', HeavyAt x o w6.heap.size A7 wc s' r' ∧ Below w6.heap.size w6 wc)
  case first =>
    have hA7 : ∀ ad, A7 = some ad → ad.block ≠ w6.heap.size := fun ad e => by have := (hg7 ad.block (by rw [e]; rfl)).1; have := Z6.out; omega
    have hL7f := blk_free hL7
    obtain ⟨l0, l1, l2, l3, l4, l5⟩ := hL7.cells
    by_cases hkm : k < x.m
    · obtain ⟨q, hq⟩ : ∃ q, x.r[k]? = some q := ⟨_, List.getElem?_eq_getElem (by rw [← hx.reqs.1]; exact hkm)⟩
      obtain ⟨-, qk0, qk1⟩ := T.right_room (HALL.out q (List.mem_of_getElem? hq))
      obtain ⟨hl9, ⟨h9, h9'⟩ | ⟨g, cap, cur, hv9, hbg, hh, hnc, hcm, hsz, ht⟩⟩ := hown7
      · omega
      injection hv9 with g1 g2 g3
      subst g1 g3
      clear g2
      have hgw : w6.heap.size < g := by have := Z6.out; omega
      have hcur : cur[k * 7 + 2]? = some (.int .i64 q.kilos) := by
        have h1 := reqCells_get x.r k q hq 2 (by omega)
        rw [← ht, List.getElem?_take, if_pos (by omega)] at h1
        simpa [Q.cells] using h1
      have hcell := blk_cell hh (k * 7 + 2) _ hcur
      have hfr := blk_free hh
      have k0 : (0 : Int) ≤ (k : Int) := by omega
      have k1 : (k : Int) < (x.m : Int) := by omega
      have key : ∀ t : Int, 1 ≤ t → t ≤ q.kilos → HeavyAt x o w6.heap.size (some ⟨g, 0, none⟩) (w7.setCell ⟨g, k * 7 + 2, none⟩ (.int .i64 t)) x.s (x.r.set k { q with kilos := t }) ∧ Below w6.heap.size w6 (w7.setCell ⟨g, k * 7 + 2, none⟩ (.int .i64 t)) := fun t t0 t1 => by
        have hb8 : Below w6.heap.size w6 (w7.setCell ⟨g, k * 7 + 2, none⟩ (.int .i64 t)) := hb7.setCell (by show w6.heap.size ≤ g; omega) _
        refine ⟨⟨(Below.heap_setCell w7 ⟨g, k * 7 + 2, none⟩ _ w6.heap.size (show w6.heap.size ≠ g by omega)).trans hL7, (hx.rooms.below hb).below hb8, ⟨by rw [List.length_set]; exact hx.reqs.1, ?_, ?_⟩, hx.b2, ?_, K.heavy_kilos HR0.out hq t0 t1⟩, hb8⟩
        · have hr := blk_set hh (k * 7 + 2) (.int .i64 t)
          have hn : (w7.setCell ⟨g, k * 7 + 2, none⟩ (.int .i64 t)).ownsRow (w5.heap.size + 1 + 1) 41 7 (.slice (some ⟨g, 0, none⟩) x.m c7) x.m (reqCells (x.r.set k { q with kilos := t })) := by
            refine ⟨by rw [reqCells_len, List.length_set, ← hx.reqs.1], .inr ⟨g, c7, _, rfl, hbg, hr, hnc, hcm, by simp [hsz], ?_⟩⟩
            rw [Array.toList_setIfInBounds, List.take_set, ht]
            exact reqCells_set t x.r k q hq
          obtain ⟨A9, c9, e9, hRd9, -⟩ := own_form hn
          injection e9 with e9
          subst e9
          exact hRd9
        · intro y hy
          rcases List.mem_or_eq_of_mem_set hy with hy | rfl
          · exact ((hx.reqs.2.2 y hy).below hb).below hb8
          · exact ((hx.reqs.2.2 q (List.mem_of_getElem? hq)).below hb).below hb8
        · intro y hy
          rcases List.mem_or_eq_of_mem_set hy with hy | rfl
          · exact hx.b4 y hy
          · exact hx.b4 q (List.mem_of_getElem? hq)
      have KEY := Lib.hid key
      clear key hq hcur ht hRd7 hRq7 hA7 hg7
      by_cases hm : 1 < q.kilos - bb
      · go_wp2_with fail
        go_meet
        case rel => exact ⟨_, _, KEY.out _ (by omega) (by omega)⟩
      · go_wp2_with fail
        go_meet
        case rel => exact ⟨_, _, KEY.out _ (by omega) (by omega)⟩
    by_cases hkm2 : k = x.m
    · have hkk : ((k : Int) == (x.m : Int)) = true := by simp [hkm2]
      have hkd : decide ((k : Int) < (x.m : Int)) = false := by simp; omega
      clear hown7 hRq7 hkm2
      by_cases hm : 0 < x.s.tare - bb
      · have hb8 : Below w6.heap.size w6 (w7.setCell ⟨w6.heap.size, 4, none⟩ (.int .i64 (x.s.tare - bb))) := hb7.setCell (Nat.le_refl _) _
        have hH : HeavyAt x o w6.heap.size A7 (w7.setCell ⟨w6.heap.size, 4, none⟩ (.int .i64 (x.s.tare - bb))) { x.s with tare := x.s.tare - bb } x.r := ⟨hL7.set4' _, (hx.rooms.below hb).below hb8, ⟨hx.reqs.1, hRd7.set _ hA7, fun q hq => ((hx.reqs.2.2 q hq).below hb).below hb8⟩, hx.b2, hx.b4, K.heavy_tare HR0.out (by omega) (by omega)⟩
        have HH := Lib.hid hH
        clear hH
        go_wp2_with fail
        go_meet
        case rel => exact ⟨_, _, HH.out, hb8⟩
      · have hb8 : Below w6.heap.size w6 (w7.setCell ⟨w6.heap.size, 4, none⟩ (.int .i64 0)) := hb7.setCell (Nat.le_refl _) _
        have hH : HeavyAt x o w6.heap.size A7 (w7.setCell ⟨w6.heap.size, 4, none⟩ (.int .i64 0)) { x.s with tare := 0 } x.r := ⟨hL7.set4' _, (hx.rooms.below hb).below hb8, ⟨hx.reqs.1, hRd7.set _ hA7, fun q hq => ((hx.reqs.2.2 q hq).below hb).below hb8⟩, hx.b2, hx.b4, K.heavy_tare HR0.out (by omega) (by omega)⟩
        have HH := Lib.hid hH
        clear hH
        go_wp2_with fail
        go_meet
        case rel => exact ⟨_, _, HH.out, hb8⟩
    · have hkk : ((k : Int) == (x.m : Int)) = false := by simp; omega
      have hkd : decide ((k : Int) < (x.m : Int)) = false := by simp; omega
      clear hown7 hRq7
      by_cases hm : 0 < x.s.start - bb
      · have hb8 : Below w6.heap.size w6 (w7.setCell ⟨w6.heap.size, 2, none⟩ (.int .i64 (x.s.start - bb))) := hb7.setCell (Nat.le_refl _) _
        have hH : HeavyAt x o w6.heap.size A7 (w7.setCell ⟨w6.heap.size, 2, none⟩ (.int .i64 (x.s.start - bb))) { x.s with start := x.s.start - bb } x.r := ⟨hL7.set2 _, (hx.rooms.below hb).below hb8, ⟨hx.reqs.1, hRd7.set _ hA7, fun q hq => ((hx.reqs.2.2 q hq).below hb).below hb8⟩, hx.b2, hx.b4, K.heavy_start HR0.out (by omega) (by omega)⟩
        have HH := Lib.hid hH
        clear hH
        go_wp2_with fail
        go_meet
        case rel => exact ⟨_, _, HH.out, hb8⟩
      · have hb8 : Below w6.heap.size w6 (w7.setCell ⟨w6.heap.size, 2, none⟩ (.int .i64 0)) := hb7.setCell (Nat.le_refl _) _
        have hH : HeavyAt x o w6.heap.size A7 (w7.setCell ⟨w6.heap.size, 2, none⟩ (.int .i64 0)) { x.s with start := 0 } x.r := ⟨hL7.set2 _, (hx.rooms.below hb).below hb8, ⟨hx.reqs.1, hRd7.set _ hA7, fun q hq => ((hx.reqs.2.2 q hq).below hb).below hb8⟩, hx.b2, hx.b4, K.heavy_start HR0.out (by omega) (by omega)⟩
        have HH := Lib.hid hH
        clear hH
        go_wp2_with fail
        go_meet
        case rel => exact ⟨_, _, HH.out, hb8⟩
  case rest =>
    obtain ⟨s', r', hH, hbc⟩ := hcut
    clear s0 s1 s2 s3 s4 s5 t0 t1 t2 t3 hown7 hRd7 hg7 hRq7 hb7 hL7 hS7 hT7 HLITG
    replace hS := hS.below hbc
    replace hT := hT.below hbc
    replace hI2 := hI2.below hbc
    replace hP := hP.below hbc
    have hbF := bel hb hbc
    have hx9 : At wc ⟨x.nd, x.A, x.n, x.c, x.l, s', A7, x.m, c7, r'⟩ := ⟨hx.net.below hbF, hH.rooms, hH.reqs, hx.b1, hH.n, hx.b3, hH.qn⟩
    obtain ⟨p0, p1⟩ : _ ∧ _ := ⟨hP.c0, hP.c1⟩
    obtain ⟨l0, l1, l2, l3, l4, l5⟩ := hH.shf.cells
    obtain ⟨t0, t1, t2, t3⟩ := hT.cells
    have HBE := Lib.hid hH.better
    have HX9 := Lib.hid hx9
    have HV9 := Lib.hid (hV.below hbF)
    clear hH hx9
    go_wp2_with fail
    refine (run_any ⟨x.nd, x.A, x.n, x.c, x.l, s', A7, x.m, c7, r'⟩ V vn vc o wc HX9.out HV9.out (by omega)).mono ?_
    rintro e wd ⟨⟨B1, m1, f1, B2, m2, f2, rfl, hJ1, hJ2, -⟩, bd⟩
    dsimp only at hJ1 hJ2 ⊢
    obtain ⟨R9, hR9⟩ : ∃ R9, R9 = K.run x.nd x.l s' r' o := ⟨_, rfl⟩
    rw [← hR9] at hJ1 hJ2 ⊢
    have HR9 := Lib.hid hR9
    clear hR9 p0 p1 l0 l1 l2 l3 l4 l5 t0 t1 t2 t3
    obtain ⟨we, hwe⟩ : ∃ we : World, we = wd.alloc (.cells #[.int .i64 0, .slice B1 m1 f1, .slice B2 m2 f2, .int .i64 R9.tour.end_] 30) := ⟨_, rfl⟩
    have be : Below wd.heap.size wd we := by rw [hwe]; exact (Below.refl _ _).alloc (Nat.le_refl _) _
    have hT9 : TBlk we wd.heap.size 0 (.slice B1 m1 f1) (.slice B2 m2 f2) R9.tour.end_ := by rw [hwe]; exact heap_alloc_new _ _
    have bce := bel bd be
    replace hT := hT.below bce
    replace hI2 := hI2.below bce
    replace hJ2 := hJ2.below be
    replace hbF := bel hbF bce
    have hbe := HBE.out.1
    unfold K.Better at hbe
    rw [← HR9.out, ← HR.out] at hbe
    obtain ⟨hbe1, hbe2⟩ := hbe
    have hR9k := K.run_ok (show (K.run x.nd x.l s' r' o).e = 0 by rw [← HR9.out]; exact hbe1)
    have hm2 : m2 = vn := by rw [hJ2.1, HR9.out, hR9k.2.2.2]; exact ((K.legs_full o [] s'.depot s'.start).1 hR9k.2.1).trans HOL.out.symm
    have HM2 := Lib.hid hm2
    have c1 : (R9.e != 0) = false := by simp [bne, hbe1]
    have c2 : ((n2 : Int) != (vn : Int)) = false := by simp [HN2.out]
    have c3 : ((m2 : Int) != (vn : Int)) = false := by simp [hm2]
    have c4 : decide (R.tour.end_ < R9.tour.end_) = false := by simp; omega
    clear hR9k hm2 hbe1 hbe2 bce bd be
    obtain ⟨t0, t1, t2, t3⟩ := hT.cells
    obtain ⟨u0, u1, u2, u3⟩ := hT9.cells
    rw [hwe] at t2 t3 u2 u3
    clear t0 t1 u0 u1
    go_wp2_with fail
    rw [← hwe]
    clear hwe t2 t3 u2 u3
    go_loopw [23] (fun v23 wr => ∃ k : Nat, v23 = .int .i64 k ∧ k ≤ vn ∧ Below we.heap.size we wr) (fun v23 _ => vn - (intOf v23).toNat)
    case atStart => exact ⟨0, rfl, by omega, Below.refl _ _⟩
    case round =>
      obtain ⟨j, rfl, hj, hbk⟩ := hrel
      by_cases hlt : j < vn
      · obtain ⟨ad, y1, rfl, hy1, cy1⟩ := (hI2.below hbk).at_ (k := j) (by rw [HN2.out]; exact hlt)
        obtain ⟨ad2, y2, rfl, hy2, cy2⟩ := (hJ2.below hbk).at_ (k := j) (by rw [HM2.out]; exact hlt)
        obtain ⟨t0, t1, t2, t3⟩ := (hT.below hbk).cells
        obtain ⟨u0, u1, u2, u3⟩ := (hT9.below hbk).cells
        have hle : y2 ≤ y1 := HBE.out.2.2 j y2 y1 (by rw [← HR9.out]; exact hy2) (by rw [← HR.out]; exact hy1)
        have c5 : decide (y1 < y2) = false := by simp; omega
        have k0 : (0 : Int) ≤ (j : Int) := by omega
        have k1 : (j : Int) < (vn : Int) := by omega
        have k2 : (j : Int) < (n2 : Int) := by rw [HN2.out]; omega
        have k3 : (j : Int) < (m2 : Int) := by rw [HM2.out]; omega
        clear hy1 hy2 t0 t1 t3 u0 u1 u3
        go_wp2_with fail
        go_quiet (fail)
        go_wp2_with fail
        go_roundw
        case rel => exact ⟨j + 1, by go_num, by omega, below_drewN hbk _⟩
        case measure => simp [intOf]; omega
      · go_wp2_with fail
        go_ret
        exact ⟨rfl, bel hbF hbk⟩
end Go.Proofs.Ytjcdpfpdjcannaa
