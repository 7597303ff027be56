/-
The walk of the law TourSkips.
-/
import Derived.Test.YtjcdpfpdjcannaaBE
import Derived.Test.YtjcdpfpdjcannaaK12
import Derived.Test.YtjcdpfpdjcannaaL1
import Derived.Test.YtjcdpfpdjcannaaL2
namespace Go.Proofs.Ytjcdpfpdjcannaa
open Go.RowKit

/-- An append at a step of a region that draws: any own row, any source that can be read. -/
theorem step_append_rd {P : Program} {w : World} {ops : Array Oper} {o : Oper} {a : Act} {K : Act → World → Prop} {Q : Exit → Act → World → Prop} {E : Prop} (hgd : o.guard = none) (s x : Operand) (t : TypeId)
    (ho : o.op = .call { callee := .builtin .append, args := #[s, x], argTypes := #[t, t] })
    (base : Nat) (e : TypeId) (i : TypeInfo) (z : Value) (size bytes : Nat) (ht : P.underlying t = some (.slice e)) (hi : P.info? e = some i) (hz : i.zero = some z)
    (hsize : i.size = size) (hby : i.bytes = bytes) (hzs : z.cells.size = size) (hsz : 0 < size)
    (v : Value) (n : Nat) (xs : List Value) (hs : a.eval s = v) (hown : w.ownsRow base e size v n xs)
    (A : Option Addr) (m c : Nat) (news : List Value) (hx : a.eval x = .slice A m c) (hr : Rd w size A m news) (h1 : ∀ u ∈ news, u.oneCell' = true)
    (h63 : n + m ≤ maxLen) (hbytes : (n + m) * bytes ≤ 140737488355328) (hbase : base ≤ w.heap.size)
    (h : ∀ v' w', w'.ownsRow base e size v' (n + m) (xs ++ news) → w.grownBy w' v.ownBlock → (v'.ownBlock = v.ownBlock ∨ v'.ownBlock = some w.heap.size) → K (a.put o.dst v') w') :
    if Region.wanted o (yielded ops a.tmps) = true then Oper.wp P o a w K Q else E := by
  have hw : Region.wanted o (yielded ops a.tmps) = true := by simp [Region.wanted, hgd]
  rw [if_pos hw]
  obtain ⟨v', w', hrun, h2, h3, h4⟩ := run_append_rd (P := P) w base t o.type e i z size bytes ht hi hz hsize hby hzs hsz v n xs hown A m c news hr h1 h63 hbytes hbase
  unfold Oper.wp execOp
  simp only [ho, resolve, invoke, builtin, Sem.run_bind, Sem.run_pure, Result.andThen_ok, List.map_toArray, List.map_cons, List.map_nil, hs, hx, hrun]
  exact h v' w' h2 h3 h4

/-- A slice's end. -/
theorem Ints.drop {w : World} {A : Option Addr} {n : Nat} {l : List Int} (h : Ints w A n l) {ad : Addr} (e : A = some ad) {k : Nat} (hk : k ≤ n) : Ints w (some (ad.add k)) (n - k) (l.drop k) := by
  subst e
  refine ⟨by rw [List.length_drop, ← h.1], by simp [intCells]; have := h.1; omega, fun h0 => ?_⟩
  obtain ⟨ad', e, hc⟩ := h.2.2 (by omega)
  injection e with e
  subst e
  refine ⟨_, rfl, fun j u hu => ?_⟩
  rw [intCells, List.map_drop, List.getElem?_drop] at hu
  rw [add_add]
  exact hc (k + j) u hu

theorem own_lit {w : World} {base g : Nat} {e : TypeId} {size : Nat} (h : w.heap[g]? = some (.cells #[] e (0, 0))) (hb : base ≤ g) : w.ownsRow base e size (.slice (some ⟨g, 0, none⟩) 0 0) 0 [] :=
  ⟨by simp, .inr ⟨g, 0, #[], rfl, hb, h, Nat.le_refl _, by simp [maxLen], by simp, by simp⟩⟩
theorem lit_block {base b n c : Nat} (h : base ≤ b) : ∀ g, (Value.slice (some ⟨b, 0, none⟩) n c).ownBlock = some g → base ≤ g := fun g e => by
  have e : some b = some g := e
  injection e with e
  omega
theorem lit_ne {g b n c : Nat} (h : g ≠ b) : some g ≠ (Value.slice (some ⟨b, 0, none⟩) n c).ownBlock := fun e => by
  have e : some g = some b := e
  injection e with e
  exact h e
/-- Another block than the new row's. -/
theorem ne_lies {g b n c H : Nat} {v : Value} (hat : v.ownBlock = (Value.slice (some ⟨b, 0, none⟩) n c).ownBlock ∨ v.ownBlock = some H) (h : g ≠ b) (hl : g < H) : some g ≠ v.ownBlock := fun e => by
  rcases hat with h1 | h1
  · rw [h1] at e; exact lit_ne h e
  · rw [h1] at e; injection e with e; omega
theorem far_blk {w : World} {g : Nat} {o : Obj} {A : Option Addr} (h : w.heap[g]? = some o) (hA : ∀ ad, A = some ad → w.heap.size ≤ ad.block) : ∀ ad, A = some ad → ad.block ≠ g := fun ad e => by
  have := (Array.getElem?_eq_some_iff.1 h).1
  have := hA ad e
  omega

/-- What the law reads off the minutes. -/
theorem skip_times {R R9 : List Int} {k m : Nat} (h : ∃ t1 t2 t2' b, R = t1 ++ b :: t2 ∧ R9 = t1 ++ t2' ∧ t1.length = m ∧ K.Ahead t2' t2) (hm : m = k) :
    ∀ (j : Nat) (y : Int), R9[j]? = some y → (j < k → R[j]? = some y) ∧ (k ≤ j → ∃ a, R[j + 1]? = some a ∧ y ≤ a) := by
  obtain ⟨t1, t2, t2', b, rfl, rfl, hl, ha⟩ := h
  intro j y hy
  subst hm
  refine ⟨fun hj => ?_, fun hj => ?_⟩
  · rw [List.getElem?_append_left (by omega)] at hy ⊢
    exact hy
  · rw [List.getElem?_append_right (by omega)] at hy
    have hlt : j - t1.length < t2.length := by rw [← ha.1]; exact (List.getElem?_eq_some_iff.1 hy).1
    refine ⟨t2[j - t1.length], ?_, ha.2 _ _ _ hy (List.getElem?_eq_getElem hlt)⟩
    rw [List.getElem?_append_right (by omega), show j + 1 - t1.length = (j - t1.length) + 1 by omega, List.getElem?_cons_succ]
    exact List.getElem?_eq_getElem hlt
theorem skip_length {R R9 : List Int} {m : Nat} (h : ∃ t1 t2 t2' b, R = t1 ++ b :: t2 ∧ R9 = t1 ++ t2' ∧ t1.length = m ∧ K.Ahead t2' t2) : R9.length + 1 = R.length := by
  obtain ⟨t1, t2, t2', b, rfl, rfl, -, ha⟩ := h
  simp [ha.1]
  omega
theorem drop_of_some {α : Type} {l : List α} {k : Nat} {a : α} (h : l[k]? = some a) : l.drop k = a :: l.drop (k + 1) := by
  obtain ⟨hk, e⟩ := List.getElem?_eq_some_iff.1 h
  rw [List.drop_eq_getElem_cons hk, e]

set_option maxRecDepth 100000 in
set_option maxHeartbeats 16000000 in
theorem skips_any (x : C) (V : Option Addr) (vn vc : Nat) (o : List Int) (which : Int) (w : World) (hN : Roads w x.A x.n x.l) (hS0 : Ints w x.s.A x.s.n x.s.l) (hQ : Reqs w x.B x.m x.r) (hV : Ints w V vn o) (hwh : (Lit.int .u8 which).wf = true) (hvc : vn ≤ vc) :
    Calls Try.prog 5 #[.agg #[.int .i64 x.nd, .slice x.A x.n x.c], .agg #[.int .i64 x.s.day, .int .i64 x.s.depot, .int .i64 x.s.start, .int .i64 x.s.end_, .int .i64 x.s.tare, .slice x.s.A x.s.n x.s.c], .slice x.B x.m x.d, .slice V vn vc, .int .u8 which] w fun e w' => e = .returned (.bool true) ∧ Below w.heap.size w w' := by
  obtain ⟨w1, hw1⟩ : ∃ w1 : World, w1 = w.alloc (.cells #[.int .i64 x.nd, .slice x.A x.n x.c] 24) := ⟨_, rfl⟩
  obtain ⟨w2, hw2⟩ : ∃ w2 : World, w2 = w1.alloc (.cells #[.int .i64 x.s.day, .int .i64 x.s.depot, .int .i64 x.s.start, .int .i64 x.s.end_, .int .i64 x.s.tare, .slice x.s.A x.s.n x.s.c] 27) := ⟨_, rfl⟩
  have z1 : w1.heap.size = w.heap.size + 1 := by rw [hw1]; exact World.size_alloc _ _
  have b01 : Below w.heap.size w w1 := by rw [hw1]; exact (Below.refl _ _).alloc (Nat.le_refl _) _
  have b12 : Below w1.heap.size w1 w2 := by rw [hw2]; exact (Below.refl _ _).alloc (Nat.le_refl _) _
  have hP : Net w2 w.heap.size x.nd x.A x.n x.c := by
    have h1 : Net w1 w.heap.size x.nd x.A x.n x.c := by rw [hw1]; exact Net.new _ _ _ _ _
    exact h1.below b12
  have hS : Shf w2 (w.heap.size + 1) x.s := by rw [← z1, hw2]; exact Shf.new _ _
  have hb := bel b01 b12
  go_enter Try.func5, Try.ntmps5
  go_wp2_with fail
  rw [← hw1, ← hw2]
  clear hw1 hw2 z1 b01 b12
  refine (small_any _).mono ?_
  rintro e w3 ⟨rfl, b3⟩
  have hP := hP.below b3
  have hS := hS.below b3
  have hb := bel hb b3
  clear b3
  have p0 := hP.c0
  have p1 := hP.c1
  obtain ⟨s0, s1, s2, s3, s4, s5⟩ := hS.cells
  go_wp2_with fail
  refine (few30_any x _ (hQ.below hb)).mono ?_
  rintro e w4 ⟨rfl, b4⟩
  have hP := hP.below b4
  have hS := hS.below b4
  have hb := bel hb b4
  clear b4 p0 p1 s0 s1 s2 s3 s4 s5
  have p0 := hP.c0
  have p1 := hP.c1
  obtain ⟨s0, s1, s2, s3, s4, s5⟩ := hS.cells
  cases hf : K.few30 x.nd x.n x.s x.r
  · clear hf
    go_wp2_with fail
    go_ret
    exact ⟨rfl, hb⟩
  obtain ⟨hf1, hf2, hf3, hf4⟩ := K.few_parts hf
  have hx : At w x := ⟨hN, hS0, hQ, by omega, by omega, by rw [hQ.1]; omega, fun q hq => by have := hf4 q hq; omega⟩
  have hm6 : x.m ≤ 6 := by rw [hQ.1]; exact hf3
  clear hf1 hf2 hf3 hf4 hf
  by_cases hv6 : 6 < vn
  · go_wp2_with fail
    go_ret
    exact ⟨rfl, hb⟩
  have hv6' : decide ((6 : Int) < (vn : Int)) = false := by simp; omega
  by_cases hv0 : vn = 0
  · have hv0' : ((vn : Int) == 0) = true := by simp [hv0]
    go_wp2_with fail
    go_ret
    exact ⟨rfl, hb⟩
  have hv0' : ((vn : Int) == 0) = false := by simp; omega
  go_wp2_with fail
  refine (run_any x V vn vc o _ (hx.below hb) (hV.below hb) (by omega)).mono ?_
  rintro e w5 ⟨⟨A1, n1, c1, A2, n2, c2, rfl, hI1, hI2, -⟩, b5⟩
  have hP := hP.below b5
  have hS := hS.below b5
  have hb := bel hb b5
  clear b5 p0 p1 s0 s1 s2 s3 s4 s5
  obtain ⟨R, hR⟩ : ∃ R, R = K.run x.nd x.l x.s x.r o := ⟨_, rfl⟩
  rw [← hR] at hI1 hI2 ⊢
  have HR := Lib.hid hR
  clear hR
  obtain ⟨w6, hw6⟩ : ∃ w6 : World, w6 = w5.alloc (.cells #[.int .i64 0, .slice A1 n1 c1, .slice A2 n2 c2, .int .i64 R.tour.end_] 30) := ⟨_, rfl⟩
  have b6 : Below w5.heap.size w5 w6 := by rw [hw6]; exact (Below.refl _ _).alloc (Nat.le_refl _) _
  have hT : TBlk w6 w5.heap.size 0 (.slice A1 n1 c1) (.slice A2 n2 c2) R.tour.end_ := by rw [hw6]; exact heap_alloc_new _ _
  have hP := hP.below b6
  have hS := hS.below b6
  have hb := bel hb b6
  have hI1 := hI1.below b6
  have hI2 := hI2.below b6
  clear b6
  have hwi : 0 ≤ which ∧ which ≤ 255 := by
    simp [Lit.wf] at hwh
    exact hwh
  obtain ⟨hw0, hw255⟩ := hwi
  obtain ⟨k, hk⟩ : ∃ k : Nat, which % (vn : Int) = (k : Int) := ⟨(which % (vn : Int)).toNat, by have := Int.emod_nonneg which (show (vn : Int) ≠ 0 by omega); omega⟩
  have hkv : k < vn := by have := Int.emod_lt_of_pos which (show (0 : Int) < (vn : Int) by omega); omega
  have hrem : which.tmod (vn : Int) = (k : Int) := by rw [Int.tmod_eq_emod_of_nonneg hw0]; exact hk
  have hoL : vn = o.length := hV.1
  obtain ⟨t0, t1, t2, t3⟩ := hT.cells
  cases e1 : (R.e == 0)
  · have e1' : (R.e != 0) = true := by simp [bne, e1]
    clear hk
    go_wp2_with fail
    go_ret
    exact ⟨rfl, by rw [← hw6]; exact hb⟩
  have e1' : (R.e != 0) = false := by simp [bne, e1]
  have hR0 : (K.run x.nd x.l x.s x.r o).e = 0 := by rw [← HR.out]; simpa using e1
  have hRk := K.run_ok hR0
  have HR0 := Lib.hid hR0
  have hn2 : n2 = vn := by rw [hI2.1, HR.out, hRk.2.2.2]; exact ((K.legs_full o [] x.s.depot x.s.start).1 hRk.2.1).trans hoL.symm
  have HN2 := Lib.hid hn2
  have HOL := Lib.hid hoL
  have HK := Lib.hid hk
  clear hRk hR0 hoL hn2 e1 hk t0 t1 t2 t3
  obtain ⟨adv, hadv⟩ : ∃ adv, V = some adv := by
    obtain ⟨ad, e, -⟩ := hV.2.2 (by omega)
    exact ⟨ad, e⟩
  subst hadv
  obtain ⟨s0, s1, s2, s3, s4, s5⟩ := hS.cells
  have p0 := hP.c0
  have p1 := hP.c1
  have k0 : (0 : Int) ≤ (k : Int) := by omega
  have k1 : (k : Int) ≤ (vc : Int) := by omega
  have k2 : IntKind.i64.wrap ((k : Int) + 1) = (k : Int) + 1 := IntWalk.i64_in _ (by omega)
  have k3 : (0 : Int) ≤ (k : Int) + 1 := by omega
  have k4 : (k : Int) + 1 ≤ (vn : Int) := by omega
  go_upto_region 8 with fail
  rw [← hw6]
  clear hw6
  have hoV : ∀ w', Below w6.heap.size w6 w' → Ints w' (some adv) vn o := fun w' h => hV.below (bel hb h)
  have S0 := LAt.mk' hP hS (Below.refl w6.heap.size w6)
  have hAx : ∀ w', LAt w6 w.heap.size x w' → At w' x := fun w' h => hx.below (bel hb h.1)
  have hSn : ∀ w' w'', LAt w6 w.heap.size x w' → Below w'.heap.size w' w'' → LAt w6 w.heap.size x w'' := fun w' w'' h hb' => LAt.mk' hP hS (bel h.1 hb')
  have hSd : ∀ w', LAt w6 w.heap.size x w' → LAt w6 w.heap.size x w'.drew := fun w' h => LAt.mk' hP hS h.1.drew
  have hSa : ∀ w' o', LAt w6 w.heap.size x w' → LAt w6 w.heap.size x (w'.alloc o') := fun w' o' h => LAt.mk' hP hS (bel h.1 ((Below.refl _ _).alloc (Nat.le_refl _) _))
  have hSs : ∀ (w' : World) (g i : Nat) (v : Value), LAt w6 w.heap.size x w' → w6.heap.size ≤ g → LAt w6 w.heap.size x (w'.setCell ⟨g, i, none⟩ v) := fun w' g i v h hg => LAt.mk' hP hS (h.1.setCell hg _)
  have hSg : ∀ (w' w'' : World) (v : Value), LAt w6 w.heap.size x w' → w'.grownBy w'' v.ownBlock → (∀ g, v.ownBlock = some g → w6.heap.size ≤ g) → LAt w6 w.heap.size x w'' := fun w' w'' v h hg hv => LAt.mk' hP hS (h.1.grown hg (Nat.le_trans h.1.size (Nat.le_refl _)) hv)
  obtain ⟨i0, hi, hz0, hz1, hz2⟩ := info_parts Try.info3
  have HAD : ∀ w', Below w6.heap.size w6 w' → Ints w' (if vc = k + 1 then some adv else some ⟨adv.block, adv.off + (k + 1), none⟩) (vn - (k + 1)) (o.drop (k + 1)) := fun w' h => by
    have hv := hoV w' h
    have hadd : adv.add (k + 1) = ⟨adv.block, adv.off + (k + 1), none⟩ := by unfold Addr.add; simp
    by_cases hc : vc = k + 1
    · have hvk : vn - (k + 1) = 0 := by omega
      rw [hvk]
      exact ⟨by rw [List.length_drop, ← HOL.out]; omega, by simp [intCells]; rw [← HOL.out]; omega, fun h0 => by omega⟩
    · rw [if_neg hc, ← hadd]
      exact Ints.drop hv rfl (by omega)
  go_cut [16, 17, 18] from 55 to 72 (fun v16 v17 v18 wc => ∃ g A3 n3 c3 A4 n4 c4, v16 = .pointer (some ⟨g, 0, none⟩) ∧ v17 = .int .i64 (K.run x.nd x.l x.s x.r (o.take k ++ o.drop (k + 1))).e ∧ v18 = .int .i64 ((K.run x.nd x.l x.s x.r (o.take k ++ o.drop (k + 1))).n : Int) ∧
    TBlk wc g 0 (.slice A3 n3 c3) (.slice A4 n4 c4) (K.run x.nd x.l x.s x.r (o.take k ++ o.drop (k + 1))).tour.end_ ∧ Ints wc A3 n3 (K.run x.nd x.l x.s x.r (o.take k ++ o.drop (k + 1))).tour.stops ∧ Ints wc A4 n4 (K.run x.nd x.l x.s x.r (o.take k ++ o.drop (k + 1))).tour.times ∧ Below w6.heap.size w6 wc)
  case first =>
    by_cases hc : vc = k + 1
    · have hc' : (vc = k + 1) = True := eq_true hc
      have HAD : ∀ w', Below w6.heap.size w6 w' → Ints w' (some adv) (vn - (k + 1)) (o.drop (k + 1)) := fun w' h => by have h9 := HAD w' h; simpa only [hc', if_true, if_false] using h9
      clear hc
      go_region_held3 (fun w' => Below w6.heap.size w6 w' ∧ w'.cell? ⟨w.heap.size, 0, none⟩ = some (.int .i64 x.nd) ∧ w'.cell? ⟨w.heap.size, 1, none⟩ = some (.slice x.A x.n x.c) ∧ w'.cell? ⟨w.heap.size + 1, 0, none⟩ = some (.int .i64 x.s.day) ∧ w'.cell? ⟨w.heap.size + 1, 1, none⟩ = some (.int .i64 x.s.depot) ∧ w'.cell? ⟨w.heap.size + 1, 2, none⟩ = some (.int .i64 x.s.start) ∧
    w'.cell? ⟨w.heap.size + 1, 3, none⟩ = some (.int .i64 x.s.end_) ∧ w'.cell? ⟨w.heap.size + 1, 4, none⟩ = some (.int .i64 x.s.tare) ∧ w'.cell? ⟨w.heap.size + 1, 5, none⟩ = some (.slice x.s.A x.s.n x.s.c))
        (first | assumption | exact S0 | exact hSd _ (by assumption) | exact hSa _ _ (by assumption) | exact hSa _ _ (hSd _ S0) | exact hSs _ _ _ _ (hSs _ _ _ _ (hSs _ _ _ _ (hSs _ _ _ _ (by assumption) (by first | omega | exact hS1.1.size | exact hS2.1.size)) (by first | omega | exact hS1.1.size | exact hS2.1.size)) (by first | omega | exact hS1.1.size | exact hS2.1.size)) (by first | omega | exact hS1.1.size | exact hS2.1.size))
        (first
          | (go_at_call 16; refine (run_any x _ _ _ (o.take k ++ o.drop (k + 1)) _ (hAx _ ?_) ?_ (by omega)).mono ?_; assumption; (first | exact hJ | exact hJ.below ((Below.refl _ _).alloc (Nat.le_refl _) _)); rintro e w3 ⟨⟨A3, n3, c3, A4, n4, c4, rfl, hI3, hI4, hA3, hA4⟩, hbn⟩; have hS3 := hSn _ _ (by assumption) hbn;
              (first | (have hT3 := blk_below hbn hT2; have hA3' := far_blk hT2 hA3; have hA4' := far_blk hT2 hA4) | (have hT3 := blk_below hbn (heap_alloc_new _ (.cells #[.int .i64 0, .slice none 0 0, .slice none 0 0, .int .i64 0] 30)); have hA3' := far_blk (heap_alloc_new _ (.cells #[.int .i64 0, .slice none 0 0, .slice none 0 0, .int .i64 0] 30)) hA3; have hA4' := far_blk (heap_alloc_new _ (.cells #[.int .i64 0, .slice none 0 0, .slice none 0 0, .int .i64 0] 30)) hA4) | skip);
              (first | (have hu0 := blk_cell hT3 0 _ rfl; have hu1 := blk_cell hT3 1 _ rfl; have hu2 := blk_cell hT3 2 _ rfl; have hu3 := blk_cell hT3 3 _ rfl; have huf := blk_free hT3) | skip))
          | ((refine step_append_rd rfl (.tmp 59) (.tmp 62) 25 rfl w6.heap.size 3 i0 (.int .i64 0) 1 8 Try.underlying25 hi hz0 hz1 hz2 rfl (by decide) (.slice (some ⟨w6.heap.size, 0, none⟩) 0 0) 0 [] rfl ?_ (some adv) k vc (intCells (o.take k)) rfl ?_ (intCells_one _) (by simp only [maxLen]; omega) (by omega) ?_ ?_; (first | exact own_lit (heap_alloc_new w6 (.cells #[] 3)) (Nat.le_refl _) | exact own_lit (blk_alloc (heap_alloc_new w6 (.cells #[] 3)) _) (Nat.le_refl _)); (refine (Ints.take (hoV _ (And.left (b := _) (show LAt w6 w.heap.size x _ from ?_))) (by omega)).2; assumption); (refine (And.left (b := _) (show LAt w6 w.heap.size x _ from ?_)).size; assumption)); intro v1 w1 hown1 hgrow1 hat1; have hS1 := hSg _ _ _ (by assumption) hgrow1 (lit_block (by omega)); rw [Nat.zero_add, List.nil_append] at hown1;
              (first | (have hT1 := grow_blk hgrow1 (g := w6.heap.size + 1) (o := (.cells #[.int .i64 0, .slice none 0 0, .slice none 0 0, .int .i64 0] 30)) (heap_alloc_at (w6.alloc (.cells #[] 3)) (.cells #[.int .i64 0, .slice none 0 0, .slice none 0 0, .int .i64 0] 30) (w6.heap.size + 1) (World.size_alloc _ _).symm) (lit_ne (by omega)); have hne1 := ne_lies (g := w6.heap.size + 1) hat1 (by omega) (by first | (simp only [World.size_alloc]; omega) | (show _ < ((w6.alloc (.cells #[.int .i64 0, .slice none 0 0, .slice none 0 0, .int .i64 0] 30)).alloc (.cells #[] 3)).heap.size; rw [World.size_alloc, World.size_alloc]; omega) | (show _ < ((w6.alloc (.cells #[] 3)).alloc (.cells #[.int .i64 0, .slice none 0 0, .slice none 0 0, .int .i64 0] 30)).heap.size; rw [World.size_alloc, World.size_alloc]; omega))) | skip))
          | ((refine step_append_rd rfl (.tmp 59) (.tmp 62) 25 rfl w6.heap.size 3 i0 (.int .i64 0) 1 8 Try.underlying25 hi hz0 hz1 hz2 rfl (by decide) (.slice (some ⟨w6.heap.size + 1, 0, none⟩) 0 0) 0 [] rfl ?_ (some adv) k vc (intCells (o.take k)) rfl ?_ (intCells_one _) (by simp only [maxLen]; omega) (by omega) ?_ ?_; (exact own_lit (heap_alloc_at (w6.alloc (.cells #[.int .i64 0, .slice none 0 0, .slice none 0 0, .int .i64 0] 30)) (.cells #[] 3) _ (World.size_alloc _ _).symm) (by omega)); (refine (Ints.take (hoV _ (And.left (b := _) (show LAt w6 w.heap.size x _ from ?_))) (by omega)).2; assumption); (refine (And.left (b := _) (show LAt w6 w.heap.size x _ from ?_)).size; assumption)); intro v1 w1 hown1 hgrow1 hat1; have hS1 := hSg _ _ _ (by assumption) hgrow1 (lit_block (by omega)); rw [Nat.zero_add, List.nil_append] at hown1;
              (first | (have hT1 := grow_blk hgrow1 (g := w6.heap.size) (o := (.cells #[.int .i64 0, .slice none 0 0, .slice none 0 0, .int .i64 0] 30)) (blk_alloc (heap_alloc_new w6 (.cells #[.int .i64 0, .slice none 0 0, .slice none 0 0, .int .i64 0] 30)) (.cells #[] 3)) (lit_ne (by omega)); have hne1 := ne_lies (g := w6.heap.size) hat1 (by omega) (by first | (simp only [World.size_alloc]; omega) | (show _ < ((w6.alloc (.cells #[.int .i64 0, .slice none 0 0, .slice none 0 0, .int .i64 0] 30)).alloc (.cells #[] 3)).heap.size; rw [World.size_alloc, World.size_alloc]; omega) | (show _ < ((w6.alloc (.cells #[] 3)).alloc (.cells #[.int .i64 0, .slice none 0 0, .slice none 0 0, .int .i64 0] 30)).heap.size; rw [World.size_alloc, World.size_alloc]; omega))) | skip))
          | (refine step_append_rd rfl (.tmp 63) (.tmp 67) 25 rfl w6.heap.size 3 i0 (.int .i64 0) 1 8 Try.underlying25 hi hz0 hz1 hz2 rfl (by decide) v1 k (intCells (o.take k)) rfl ?_ (some adv) (vn - (k + 1)) (vc - (k + 1)) (intCells (o.drop (k + 1))) rfl ?_ (intCells_one _) (by simp only [maxLen]; omega) (by omega) ?_ ?_; (first | exact hown1 | exact World.ownsRow.alloc hown1 _); (refine (HAD _ (And.left (b := _) (show LAt w6 w.heap.size x _ from ?_))).2; assumption); (refine (And.left (b := _) (show LAt w6 w.heap.size x _ from ?_)).size; assumption); intro v2 w2 hown2 hgrow2 hat2; have hS2 := hSg _ _ _ (by assumption) hgrow2 (fun g e => (hown1.lt g e).1);
              (first | (have hT2 := grow_blk hgrow2 hT1 hne1) | (have hT2 := grow_blk hgrow2 (heap_alloc_new _ (.cells #[.int .i64 0, .slice none 0 0, .slice none 0 0, .int .i64 0] 30)) (fun e => Nat.lt_irrefl _ (hown1.lt _ e.symm).2)) | skip);
              obtain ⟨A9, c9, rfl, hRd9, -⟩ := own_form hown2; rw [← intCells_app] at hRd9; have hJ : Ints _ A9 _ (o.take k ++ o.drop (k + 1)) := ⟨by rw [List.length_append, List.length_take, List.length_drop, ← HOL.out]; omega, hRd9⟩))
      · go_wp2_with fail
        go_meet
        case rel => exact ⟨_, A3, n3, c3, A4, n4, c4, rfl, rfl, rfl, heap_alloc_new _ _, hI3.below ((Below.refl _ _).alloc (Nat.le_refl _) _), hI4.below ((Below.refl _ _).alloc (Nat.le_refl _) _), bel hS3.1 ((Below.refl _ _).alloc (Nat.le_refl _) _)⟩
      · have hg : _ := hS2.1.size
        go_wp2_with fail
        go_meet
        case rel => exact ⟨_, A3, n3, c3, A4, n4, c4, rfl, rfl, rfl, blk_set (blk_set (blk_set (blk_set hT3 0 _) 1 _) 2 _) 3 _, (((hI3.set _ hA3').set _ hA3').set _ hA3').set _ hA3', (((hI4.set _ hA4').set _ hA4').set _ hA4').set _ hA4', (((hS3.1.setCell hg _).setCell hg _).setCell hg _).setCell hg _⟩
      · have hg : _ := hS1.1.size
        go_wp2_with fail
        go_meet
        case rel => exact ⟨_, A3, n3, c3, A4, n4, c4, rfl, rfl, rfl, blk_set (blk_set (blk_set (blk_set hT3 0 _) 1 _) 2 _) 3 _, (((hI3.set _ hA3').set _ hA3').set _ hA3').set _ hA3', (((hI4.set _ hA4').set _ hA4').set _ hA4').set _ hA4', (((hS3.1.setCell hg _).setCell hg _).setCell hg _).setCell hg _⟩
      · have hg : _ := Nat.le_succ w6.heap.size
        go_wp2_with fail
        go_meet
        case rel => exact ⟨_, A3, n3, c3, A4, n4, c4, rfl, rfl, rfl, blk_set (blk_set (blk_set (blk_set hT3 0 _) 1 _) 2 _) 3 _, (((hI3.set _ hA3').set _ hA3').set _ hA3').set _ hA3', (((hI4.set _ hA4').set _ hA4').set _ hA4').set _ hA4', (((hS3.1.setCell hg _).setCell hg _).setCell hg _).setCell hg _⟩
      · have hg : _ := Nat.le_refl w6.heap.size
        go_wp2_with fail
        go_meet
        case rel => exact ⟨_, A3, n3, c3, A4, n4, c4, rfl, rfl, rfl, blk_set (blk_set (blk_set (blk_set hT3 0 _) 1 _) 2 _) 3 _, (((hI3.set _ hA3').set _ hA3').set _ hA3').set _ hA3', (((hI4.set _ hA4').set _ hA4').set _ hA4').set _ hA4', (((hS3.1.setCell hg _).setCell hg _).setCell hg _).setCell hg _⟩
    · have hc' : (vc = k + 1) = False := eq_false hc
      have HAD : ∀ w', Below w6.heap.size w6 w' → Ints w' (some ⟨adv.block, adv.off + (k + 1), none⟩) (vn - (k + 1)) (o.drop (k + 1)) := fun w' h => by have h9 := HAD w' h; simpa only [hc', if_true, if_false] using h9
      clear hc
      go_region_held3 (fun w' => Below w6.heap.size w6 w' ∧ w'.cell? ⟨w.heap.size, 0, none⟩ = some (.int .i64 x.nd) ∧ w'.cell? ⟨w.heap.size, 1, none⟩ = some (.slice x.A x.n x.c) ∧ w'.cell? ⟨w.heap.size + 1, 0, none⟩ = some (.int .i64 x.s.day) ∧ w'.cell? ⟨w.heap.size + 1, 1, none⟩ = some (.int .i64 x.s.depot) ∧ w'.cell? ⟨w.heap.size + 1, 2, none⟩ = some (.int .i64 x.s.start) ∧
    w'.cell? ⟨w.heap.size + 1, 3, none⟩ = some (.int .i64 x.s.end_) ∧ w'.cell? ⟨w.heap.size + 1, 4, none⟩ = some (.int .i64 x.s.tare) ∧ w'.cell? ⟨w.heap.size + 1, 5, none⟩ = some (.slice x.s.A x.s.n x.s.c))
        (first | assumption | exact S0 | exact hSd _ (by assumption) | exact hSa _ _ (by assumption) | exact hSa _ _ (hSd _ S0) | exact hSs _ _ _ _ (hSs _ _ _ _ (hSs _ _ _ _ (hSs _ _ _ _ (by assumption) (by first | omega | exact hS1.1.size | exact hS2.1.size)) (by first | omega | exact hS1.1.size | exact hS2.1.size)) (by first | omega | exact hS1.1.size | exact hS2.1.size)) (by first | omega | exact hS1.1.size | exact hS2.1.size))
        (first
          | (go_at_call 16; refine (run_any x _ _ _ (o.take k ++ o.drop (k + 1)) _ (hAx _ ?_) ?_ (by omega)).mono ?_; assumption; (first | exact hJ | exact hJ.below ((Below.refl _ _).alloc (Nat.le_refl _) _)); rintro e w3 ⟨⟨A3, n3, c3, A4, n4, c4, rfl, hI3, hI4, hA3, hA4⟩, hbn⟩; have hS3 := hSn _ _ (by assumption) hbn;
              (first | (have hT3 := blk_below hbn hT2; have hA3' := far_blk hT2 hA3; have hA4' := far_blk hT2 hA4) | (have hT3 := blk_below hbn (heap_alloc_new _ (.cells #[.int .i64 0, .slice none 0 0, .slice none 0 0, .int .i64 0] 30)); have hA3' := far_blk (heap_alloc_new _ (.cells #[.int .i64 0, .slice none 0 0, .slice none 0 0, .int .i64 0] 30)) hA3; have hA4' := far_blk (heap_alloc_new _ (.cells #[.int .i64 0, .slice none 0 0, .slice none 0 0, .int .i64 0] 30)) hA4) | skip);
              (first | (have hu0 := blk_cell hT3 0 _ rfl; have hu1 := blk_cell hT3 1 _ rfl; have hu2 := blk_cell hT3 2 _ rfl; have hu3 := blk_cell hT3 3 _ rfl; have huf := blk_free hT3) | skip))
          | ((refine step_append_rd rfl (.tmp 59) (.tmp 62) 25 rfl w6.heap.size 3 i0 (.int .i64 0) 1 8 Try.underlying25 hi hz0 hz1 hz2 rfl (by decide) (.slice (some ⟨w6.heap.size, 0, none⟩) 0 0) 0 [] rfl ?_ (some adv) k vc (intCells (o.take k)) rfl ?_ (intCells_one _) (by simp only [maxLen]; omega) (by omega) ?_ ?_; (first | exact own_lit (heap_alloc_new w6 (.cells #[] 3)) (Nat.le_refl _) | exact own_lit (blk_alloc (heap_alloc_new w6 (.cells #[] 3)) _) (Nat.le_refl _)); (refine (Ints.take (hoV _ (And.left (b := _) (show LAt w6 w.heap.size x _ from ?_))) (by omega)).2; assumption); (refine (And.left (b := _) (show LAt w6 w.heap.size x _ from ?_)).size; assumption)); intro v1 w1 hown1 hgrow1 hat1; have hS1 := hSg _ _ _ (by assumption) hgrow1 (lit_block (by omega)); rw [Nat.zero_add, List.nil_append] at hown1;
              (first | (have hT1 := grow_blk hgrow1 (g := w6.heap.size + 1) (o := (.cells #[.int .i64 0, .slice none 0 0, .slice none 0 0, .int .i64 0] 30)) (heap_alloc_at (w6.alloc (.cells #[] 3)) (.cells #[.int .i64 0, .slice none 0 0, .slice none 0 0, .int .i64 0] 30) (w6.heap.size + 1) (World.size_alloc _ _).symm) (lit_ne (by omega)); have hne1 := ne_lies (g := w6.heap.size + 1) hat1 (by omega) (by first | (simp only [World.size_alloc]; omega) | (show _ < ((w6.alloc (.cells #[.int .i64 0, .slice none 0 0, .slice none 0 0, .int .i64 0] 30)).alloc (.cells #[] 3)).heap.size; rw [World.size_alloc, World.size_alloc]; omega) | (show _ < ((w6.alloc (.cells #[] 3)).alloc (.cells #[.int .i64 0, .slice none 0 0, .slice none 0 0, .int .i64 0] 30)).heap.size; rw [World.size_alloc, World.size_alloc]; omega))) | skip))
          | ((refine step_append_rd rfl (.tmp 59) (.tmp 62) 25 rfl w6.heap.size 3 i0 (.int .i64 0) 1 8 Try.underlying25 hi hz0 hz1 hz2 rfl (by decide) (.slice (some ⟨w6.heap.size + 1, 0, none⟩) 0 0) 0 [] rfl ?_ (some adv) k vc (intCells (o.take k)) rfl ?_ (intCells_one _) (by simp only [maxLen]; omega) (by omega) ?_ ?_; (exact own_lit (heap_alloc_at (w6.alloc (.cells #[.int .i64 0, .slice none 0 0, .slice none 0 0, .int .i64 0] 30)) (.cells #[] 3) _ (World.size_alloc _ _).symm) (by omega)); (refine (Ints.take (hoV _ (And.left (b := _) (show LAt w6 w.heap.size x _ from ?_))) (by omega)).2; assumption); (refine (And.left (b := _) (show LAt w6 w.heap.size x _ from ?_)).size; assumption)); intro v1 w1 hown1 hgrow1 hat1; have hS1 := hSg _ _ _ (by assumption) hgrow1 (lit_block (by omega)); rw [Nat.zero_add, List.nil_append] at hown1;
              (first | (have hT1 := grow_blk hgrow1 (g := w6.heap.size) (o := (.cells #[.int .i64 0, .slice none 0 0, .slice none 0 0, .int .i64 0] 30)) (blk_alloc (heap_alloc_new w6 (.cells #[.int .i64 0, .slice none 0 0, .slice none 0 0, .int .i64 0] 30)) (.cells #[] 3)) (lit_ne (by omega)); have hne1 := ne_lies (g := w6.heap.size) hat1 (by omega) (by first | (simp only [World.size_alloc]; omega) | (show _ < ((w6.alloc (.cells #[.int .i64 0, .slice none 0 0, .slice none 0 0, .int .i64 0] 30)).alloc (.cells #[] 3)).heap.size; rw [World.size_alloc, World.size_alloc]; omega) | (show _ < ((w6.alloc (.cells #[] 3)).alloc (.cells #[.int .i64 0, .slice none 0 0, .slice none 0 0, .int .i64 0] 30)).heap.size; rw [World.size_alloc, World.size_alloc]; omega))) | skip))
          | (refine step_append_rd rfl (.tmp 63) (.tmp 67) 25 rfl w6.heap.size 3 i0 (.int .i64 0) 1 8 Try.underlying25 hi hz0 hz1 hz2 rfl (by decide) v1 k (intCells (o.take k)) rfl ?_ (some ⟨adv.block, adv.off + (k + 1), none⟩) (vn - (k + 1)) (vc - (k + 1)) (intCells (o.drop (k + 1))) rfl ?_ (intCells_one _) (by simp only [maxLen]; omega) (by omega) ?_ ?_; (first | exact hown1 | exact World.ownsRow.alloc hown1 _); (refine (HAD _ (And.left (b := _) (show LAt w6 w.heap.size x _ from ?_))).2; assumption); (refine (And.left (b := _) (show LAt w6 w.heap.size x _ from ?_)).size; assumption); intro v2 w2 hown2 hgrow2 hat2; have hS2 := hSg _ _ _ (by assumption) hgrow2 (fun g e => (hown1.lt g e).1);
              (first | (have hT2 := grow_blk hgrow2 hT1 hne1) | (have hT2 := grow_blk hgrow2 (heap_alloc_new _ (.cells #[.int .i64 0, .slice none 0 0, .slice none 0 0, .int .i64 0] 30)) (fun e => Nat.lt_irrefl _ (hown1.lt _ e.symm).2)) | skip);
              obtain ⟨A9, c9, rfl, hRd9, -⟩ := own_form hown2; rw [← intCells_app] at hRd9; have hJ : Ints _ A9 _ (o.take k ++ o.drop (k + 1)) := ⟨by rw [List.length_append, List.length_take, List.length_drop, ← HOL.out]; omega, hRd9⟩))
      · go_wp2_with fail
        go_meet
        case rel => exact ⟨_, A3, n3, c3, A4, n4, c4, rfl, rfl, rfl, heap_alloc_new _ _, hI3.below ((Below.refl _ _).alloc (Nat.le_refl _) _), hI4.below ((Below.refl _ _).alloc (Nat.le_refl _) _), bel hS3.1 ((Below.refl _ _).alloc (Nat.le_refl _) _)⟩
      · have hg : _ := hS2.1.size
        go_wp2_with fail
        go_meet
        case rel => exact ⟨_, A3, n3, c3, A4, n4, c4, rfl, rfl, rfl, blk_set (blk_set (blk_set (blk_set hT3 0 _) 1 _) 2 _) 3 _, (((hI3.set _ hA3').set _ hA3').set _ hA3').set _ hA3', (((hI4.set _ hA4').set _ hA4').set _ hA4').set _ hA4', (((hS3.1.setCell hg _).setCell hg _).setCell hg _).setCell hg _⟩
      · have hg : _ := hS1.1.size
        go_wp2_with fail
        go_meet
        case rel => exact ⟨_, A3, n3, c3, A4, n4, c4, rfl, rfl, rfl, blk_set (blk_set (blk_set (blk_set hT3 0 _) 1 _) 2 _) 3 _, (((hI3.set _ hA3').set _ hA3').set _ hA3').set _ hA3', (((hI4.set _ hA4').set _ hA4').set _ hA4').set _ hA4', (((hS3.1.setCell hg _).setCell hg _).setCell hg _).setCell hg _⟩
      · have hg : _ := Nat.le_succ w6.heap.size
        go_wp2_with fail
        go_meet
        case rel => exact ⟨_, A3, n3, c3, A4, n4, c4, rfl, rfl, rfl, blk_set (blk_set (blk_set (blk_set hT3 0 _) 1 _) 2 _) 3 _, (((hI3.set _ hA3').set _ hA3').set _ hA3').set _ hA3', (((hI4.set _ hA4').set _ hA4').set _ hA4').set _ hA4', (((hS3.1.setCell hg _).setCell hg _).setCell hg _).setCell hg _⟩
      · have hg : _ := Nat.le_refl w6.heap.size
        go_wp2_with fail
        go_meet
        case rel => exact ⟨_, A3, n3, c3, A4, n4, c4, rfl, rfl, rfl, blk_set (blk_set (blk_set (blk_set hT3 0 _) 1 _) 2 _) 3 _, (((hI3.set _ hA3').set _ hA3').set _ hA3').set _ hA3', (((hI4.set _ hA4').set _ hA4').set _ hA4').set _ hA4', (((hS3.1.setCell hg _).setCell hg _).setCell hg _).setCell hg _⟩
  case rest =>
    obtain ⟨g, A3, n3, c3, A4, n4, c4, rfl, rfl, rfl, hT9, -, hJ2, hbc⟩ := hcut
    obtain ⟨i, hi9⟩ : ∃ i, o[k]? = some i := ⟨_, List.getElem?_eq_getElem (by rw [← HOL.out]; exact hkv)⟩
    have hsplit : o.take k ++ i :: o.drop (k + 1) = o := by rw [← drop_of_some hi9, List.take_append_drop]
    obtain ⟨⟨hq1, hq2⟩, hq3⟩ := K.skips (nd := x.nd) (l := x.l) (s := x.s) (r := x.r) (o1 := o.take k) (o2 := o.drop (k + 1)) (i := i) (by rw [hsplit]; exact HR0.out)
    rw [hsplit] at hq2 hq3
    obtain ⟨R9, hR9⟩ : ∃ R9, R9 = K.run x.nd x.l x.s x.r (o.take k ++ o.drop (k + 1)) := ⟨_, rfl⟩
    rw [← hR9] at hT9 hJ2 hq1 hq2 hq3
    rw [← HR.out] at hq2 hq3
    have hstep : ∀ (j : Nat) (y : Int), R9.tour.times[j]? = some y → (j < k → R.tour.times[j]? = some y) ∧ (k ≤ j → ∃ a, R.tour.times[j + 1]? = some a ∧ y ≤ a) := skip_times hq3 (by rw [List.length_take, ← HOL.out]; omega)
    have hlen : R9.tour.times.length + 1 = R.tour.times.length := skip_length hq3
    rw [← hR9]
    clear hR9 hq3 hsplit hi9 s0 s1 s2 s3 s4 s5 p0 p1 hoV S0 hAx hSn hSd hSa hSs hSg HAD hi hz0 hz1 hz2
    have HSTEP := Lib.hid hstep
    replace hT := hT.below hbc
    replace hI2 := hI2.below hbc
    have hbF := bel hb hbc
    have hn4 : n4 + 1 = vn := by rw [hJ2.1, hlen, ← hI2.1]; exact HN2.out
    have HN4 := Lib.hid hn4
    have c0 : IntKind.i64.wrap ((vn : Int) - 1) = (vn : Int) - 1 := IntWalk.i64_in _ (by omega)
    have c1 : (R9.e != 0) = false := by simp [bne, hq1]
    have c2 : ((n2 : Int) != (vn : Int)) = false := by simp [HN2.out]
    have c3' : ((n4 : Int) != (vn : Int) - 1) = false := by simp; omega
    have c4' : decide (R.tour.end_ < R9.tour.end_) = false := by simp; omega
    clear hstep hlen hn4 hq1 hq2
    obtain ⟨t0, t1, t2, t3⟩ := hT.cells
    obtain ⟨u0, u1, u2, u3⟩ := hT9.cells
    clear t0 t1 u0 u1
    go_wp2_with fail
    clear t2 t3 u2 u3
    go_loopw [19, 20] (fun v19 _ wr => ∃ j : Nat, v19 = .int .i64 j ∧ j ≤ n4 ∧ Below wc.heap.size wc wr) (fun v19 _ _ => n4 - (intOf v19).toNat)
    case atStart => exact ⟨0, rfl, by omega, Below.refl _ _⟩
    case round =>
      obtain ⟨j, rfl, hj, hbk⟩ := hrel
      obtain ⟨t0, t1, t2, t3⟩ := (hT.below hbk).cells
      obtain ⟨u0, u1, u2, u3⟩ := (hT9.below hbk).cells
      clear t0 t1 t3 u0 u1 u3
      by_cases hlt : j < n4
      · obtain ⟨ad2, y2, rfl, hy2, cy2⟩ := (hJ2.below hbk).at_ (k := j) hlt
        obtain ⟨ad, y1, rfl, hy1, cy1⟩ := (hI2.below hbk).at_ (k := j) (by rw [HN2.out, ← HN4.out]; omega)
        have k5 : (0 : Int) ≤ (j : Int) := by omega
        have k6 : (j : Int) < (n2 : Int) := by rw [HN2.out, ← HN4.out]; omega
        have k7 : (j : Int) < (n4 : Int) := by omega
        obtain ⟨hlo, hhi⟩ := HSTEP.out j y2 hy2
        by_cases hjk : j < k
        · have he := hlo hjk
          rw [hy1] at he
          injection he with he
          subst he
          have c5 : decide ((k : Int) ≤ (j : Int)) = false := by simp; omega
          have c6 : decide ((j : Int) < (k : Int)) = true := by simp; omega
          have c7 : (y1 != y1) = false := by simp
          clear hy1 hy2 hlo hhi
          go_wp2_with fail
          go_roundw
          case rel => first | exact ⟨j + 1, by go_num, by omega, hbk⟩ | exact ⟨j + 1, by go_num, by omega, below_drewN hbk _⟩
          case measure => simp [intOf]; omega
        · obtain ⟨a, ha, hya⟩ := hhi (by omega)
          obtain ⟨ad3, y3, e3, hy3, cy3⟩ := (hI2.below hbk).at_ (k := j + 1) (by rw [HN2.out, ← HN4.out]; omega)
          injection e3 with e3
          subst e3
          rw [hy3] at ha
          injection ha with ha
          subst ha
          have c5 : decide ((k : Int) ≤ (j : Int)) = true := by simp; omega
          have c6 : decide ((j : Int) < (k : Int)) = false := by simp; omega
          have c7 : decide (y3 < y2) = false := by simp; omega
          have k8 : IntKind.i64.wrap ((j : Int) + 1) = (j : Int) + 1 := IntWalk.i64_in _ (by have := HN4.out; omega)
          have k9 : (0 : Int) ≤ (j : Int) + 1 := by omega
          have k10 : (j : Int) + 1 < (n2 : Int) := by rw [HN2.out, ← HN4.out]; omega
          have k11 : ((j : Int) + 1).toNat = j + 1 := by omega
          have hadd : ad.add (j + 1) = ⟨ad.block, ad.off + (j + 1), none⟩ := by unfold Addr.add; simp
          rw [hadd] at cy3
          clear hadd
          clear hy1 hy2 hy3 hlo hhi
          go_wp2_with fail
          go_roundw
          case rel => first | exact ⟨j + 1, by go_num, by omega, hbk⟩ | exact ⟨j + 1, by go_num, by omega, below_drewN hbk _⟩
          case measure => simp [intOf]; omega
      · go_wp2_with fail
        go_ret
        exact ⟨rfl, bel hbF hbk⟩
end Go.Proofs.Ytjcdpfpdjcannaa
