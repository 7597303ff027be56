/-
Plans: the walk of PlanParts.
-/
import Derived.Test.YtippdjmpkafifaaY24
import Derived.Test.YtippdjmpkafifaaX8
namespace Go.Proofs.Ytippdjmpkafifaa
open Go.RowKit

theorem Try.info43 : (Try.prog.info? 43).map (fun i => (i.zero, i.size, i.bytes)) = some (some (.agg #[.int .i64 0, .int .i64 0, .int .i64 0, .int .i64 0, .int .i64 0, .slice none 0 0]), 6, 64) := by kernel_rfl
theorem step_app_shifts {ops : Array Oper} {o : Oper} {a : Act} {w : World} {K : Act → World → Prop} {Q' : Exit → Act → World → Prop} {E : Prop} (s x : Operand) (base : Nat) (v : Value) (n : Nat) (xs : List Value) (hown : w.ownsRow base 43 6 v n xs)
    (A : Option Addr) (m c : Nat) (news : List Value) (hr : Rd w 6 A m news) (h1 : ∀ u ∈ news, u.oneCell' = true) (hn : n + m ≤ 1000000) (hbase : base ≤ w.heap.size)
    (hgd : o.guard = none) (ho : o.op = .call { callee := .builtin .append, args := #[s, x], argTypes := #[25, 25] }) (hs : a.eval s = v) (hx : a.eval x = .slice A m c)
    (h : ∀ v' w', w'.ownsRow base 43 6 v' (n + m) (xs ++ news) → w.grownBy w' v.ownBlock → (v'.ownBlock = v.ownBlock ∨ v'.ownBlock = some w.heap.size) → K (a.put o.dst v') w') :
    if Region.wanted o (yielded ops a.tmps) = true then Oper.wp Try.prog o a w K Q' else E := by
  obtain ⟨i0, hi, hz0, hz1, hz2⟩ := info_parts Try.info43
  exact step_append_rd hgd s x 25 ho base 43 i0 (.agg #[.int .i64 0, .int .i64 0, .int .i64 0, .int .i64 0, .int .i64 0, .slice none 0 0]) 6 64 Try.underlying25 hi hz0 hz1 hz2 rfl (by decide) v n xs hs hown A m c news hx hr h1 (by simp only [maxLen]; omega) (by omega) hbase h
theorem K.plan_vals {nd : Int} {l : List Ro} {ss : List S} {r : List Q} : (K.plan nd l ss r).2 = 0 ∨ (K.plan nd l ss r).2 = 4 ∨ (K.plan nd l ss r).2 = 1 ∨ (K.plan nd l ss r).2 = 6 := by
  by_cases h : K.pcheck nd l ss r = 0
  · rcases K.plan_42 h with h | h
    · exact .inl h
    · exact .inr (.inl h)
  · rw [K.plan_err h]
    rcases K.pcheck_cases (nd := nd) (l := l) (ss := ss) (r := r) with e | e | e
    · exact absurd e h
    · exact .inr (.inr (.inl e))
    · exact .inr (.inr (.inr e))
set_option maxRecDepth 100000 in
set_option maxHeartbeats 16000000 in
theorem planParts_any (x : Cs) (bt : Int) (s : S) (w : World) (hN : Roads w x.A x.n x.l) (hS : Shifts w x.SA x.sn x.ss) (hQ : Reqs w x.B x.m x.r) (hI : Ints w s.A s.n s.l) :
    Calls Try.prog 4 #[.agg #[.int .i64 x.nd, .slice x.A x.n x.c], .slice x.SA x.sn x.sc, .slice x.B x.m x.d, .int .u8 bt, .agg #[.int .i64 s.day, .int .i64 s.depot, .int .i64 s.start, .int .i64 s.end_, .int .i64 s.tare, .slice s.A s.n s.c]] w fun e w' => e = .returned (.bool true) ∧ Below w.heap.size w w' := by
  obtain ⟨w0, hw0⟩ : ∃ w0 : World, w0 = w.alloc (.cells #[.int .i64 x.nd, .slice x.A x.n x.c] 24) := ⟨_, rfl⟩
  obtain ⟨w1, hw1⟩ : ∃ w1 : World, w1 = w0.alloc (.cells #[.int .i64 s.day, .int .i64 s.depot, .int .i64 s.start, .int .i64 s.end_, .int .i64 s.tare, .slice s.A s.n s.c] 43) := ⟨_, rfl⟩
  have z0 : w0.heap.size = w.heap.size + 1 := by rw [hw0]; exact World.size_alloc _ _
  have b0 : Below w.heap.size w w0 := by rw [hw0]; exact (Below.refl _ _).alloc (Nat.le_refl _) _
  have b1 : Below w0.heap.size w0 w1 := by rw [hw1]; exact (Below.refl _ _).alloc (Nat.le_refl _) _
  have hP : Net w1 w.heap.size x.nd x.A x.n x.c := by
    have h9 : Net w0 w.heap.size x.nd x.A x.n x.c := by rw [hw0]; exact Net.new w x.nd x.A x.n x.c
    exact h9.below b1
  have hM : Shf w1 (w.heap.size + 1) s := by rw [← z0, hw1]; exact Shf.new _ _
  have hb := bel b0 b1
  go_enter Try.func4, Try.ntmps4
  go_wp2_with fail
  rw [← hw0, ← hw1]
  clear hw0 hw1 b0 b1 z0
  refine (small_any _).mono ?_
  rintro e w2 ⟨rfl, b2⟩
  have hP := hP.below b2
  have hM := hM.below b2
  have hb := bel hb b2
  clear b2
  have p0 := hP.c0
  have p1 := hP.c1
  have m5 := hM.c5
  go_wp2_with fail
  refine (few9_any x _ (hS.below hb) (hQ.below hb)).mono ?_
  rintro e w3 ⟨rfl, b3⟩
  clear p0 p1 m5
  have hP := hP.below b3
  have hM := hM.below b3
  have hb := bel hb b3
  clear b3
  have p0 := hP.c0
  have p1 := hP.c1
  have m5 := hM.c5
  cases hf : K.few32 x
  · clear hf
    go_wp2_with fail
    go_ret
    exact ⟨rfl, hb⟩
  have hx : CsAt w x := K.few32_at hf hN hS hQ
  clear hf
  have HSN := Lib.hid hS.1.1
  have HRN := Lib.hid hQ.1
  by_cases h1 : x.sn ≤ 2
  rotate_left
  · have d1 : decide ((2 : Int) < (x.sn : Int)) = true := by simp; omega
    have d2 : decide (2 < x.sn) = true := by simp; omega
    clear h1
    go_wp2_with fail
    go_ret
    exact ⟨rfl, hb⟩
  have d1 : decide ((2 : Int) < (x.sn : Int)) = false := by simp; omega
  have d2 : decide (2 < x.sn) = false := by simp; omega
  by_cases h2 : x.m ≤ 4
  rotate_left
  · have d3 : decide ((4 : Int) < (x.m : Int)) = true := by simp; omega
    have d4 : decide (4 < x.m) = true := by simp; omega
    clear h1 h2
    go_wp2_with fail
    go_ret
    exact ⟨rfl, hb⟩
  have d3 : decide ((4 : Int) < (x.m : Int)) = false := by simp; omega
  have d4 : decide (4 < x.m) = false := by simp; omega
  by_cases h3 : s.n ≤ 6
  rotate_left
  · have d5 : decide ((6 : Int) < (s.n : Int)) = true := by simp; omega
    have d6 : decide (6 < s.n) = true := by simp; omega
    clear h1 h2 h3
    go_wp2_with fail
    go_ret
    exact ⟨rfl, hb⟩
  have d5 : decide ((6 : Int) < (s.n : Int)) = false := by simp; omega
  have d6 : decide (6 < s.n) = false := by simp; omega
  go_wp2_with fail
  refine (plan32_any x _ (hx.below hb)).mono ?_
  obtain ⟨e1, he1⟩ : ∃ e1, e1 = (K.plan x.nd x.l x.ss x.r).2 := ⟨_, rfl⟩
  rintro e w4 ⟨⟨PA, pn, pc, pl, rfl, -, -, -⟩, b4⟩
  rw [← he1]
  have HE1 := Lib.hid he1
  clear he1 d1 d2 d3 d4 d5 d6
  clear p0 p1 m5
  have hP := hP.below b4
  have hM := hM.below b4
  have hb := bel hb b4
  clear b4
  have p0 := hP.c0
  have p1 := hP.c1
  have m5 := hM.c5
  clear p0 p1 m5
  go_wp2_with fail
  have hown0 : w4.ownsRow w4.heap.size 46 7 (.slice none 0 0) ([] : List Q).length (([] : List Q).flatMap Q.cells) := World.ownsRow_nil _ _ _ _
  go_loopw [14, 15] (fun v14 v15 wr => ∃ (k : Nat) (L : List Q), v15 = .int .i64 k ∧ k ≤ x.m ∧ L.Sublist (x.r.take k) ∧ wr.ownsRow w4.heap.size 46 7 v14 L.length (L.flatMap Q.cells) ∧ Below w4.heap.size w4 wr) (fun _ v15 _ => x.m - (intOf v15).toNat)
  case atStart => exact ⟨0, [], rfl, Nat.zero_le _, List.nil_sublist _, hown0, Below.refl _ _⟩
  case round =>
    clear hown0
    obtain ⟨k, L, rfl, hk, hL, hown, hbr⟩ := hrel
    by_cases hlt : k < x.m
    · have k0 : (0 : Int) ≤ (k : Int) := by omega
      have k1 : (k : Int) < (x.m : Int) := by omega
      have k2 : k + 1 ≤ x.m := hlt
      have kw : k ≤ 1000000000 := by omega
      have hsub : (x.r.take k).Sublist (x.r.take (k + 1)) := List.take_sublist_take_left (Nat.le_succ k)
      obtain ⟨adq, q, hB, hq, hW, c0, c1, c2, c3, c4, c5, c6⟩ := (hx.below (bel hb hbr)).reqs.at_ hlt
      have hLl : L.length ≤ 1000000 := by
        have h9 := hL.length_le
        rw [List.length_take] at h9
        omega
      have hnx : (L ++ [q]).Sublist (x.r.take (k + 1)) := by rw [take_snoc hq]; exact hL.append (List.Sublist.refl _)
      obtain ⟨g9, hg9⟩ : ∃ g9, g9 = wr.heap.size := ⟨_, rfl⟩
      obtain ⟨w5, hw5⟩ : ∃ w5 : World, w5 = wr.alloc (.cells #[.int .i64 q.node, .int .i64 q.room, .int .i64 q.kilos, .int .i64 q.service, .int .i64 q.frm, .int .i64 q.by_, .slice q.A q.n q.c] 46) := ⟨_, rfl⟩
      have b5 : Below wr.heap.size wr w5 := by rw [hw5]; exact (Below.refl _ _).alloc (Nat.le_refl _) _
      have hB5 : w5.heap[g9]? = some (.cells q.cells.toArray 46 (0, 0)) := by rw [hw5, hg9]; exact heap_alloc_new _ _
      have hown5 := own_below hown b5
      have hbs : w4.heap.size ≤ w5.heap.size := Nat.le_trans hbr.size b5.size
      have HME := Lib.hid (show x.m - (((k : Int) + 1).toNat) < x.m - ((k : Int).toNat) by omega)
      have kz0 : (k : Int) + 1 = ((k + 1 : Nat) : Int) := by omega
      have KZ := Lib.hid kz0
      have hb5 := bel hbr b5
      clear kz0
      cases hbit : (bits BinOp.and IntKind.u8 (bt / 2 ^ k) 1 == 1)
      · clear c0 c1 c2 c3 c4 c5 c6
        go_wp2_with fail
        clear hbit
        go_roundw
        case rel => (go_light; exact ⟨k + 1, L, by go_num, k2, hL.trans hsub, hown, hbr⟩)
        case measure => (go_light; simp [intOf]; omega)
      · rw [hB]
        go_wp2_with (first
          | (at_builtin; rw [← hw5, ← hg9]; refine app_req rfl _ _ rfl w4.heap.size _ L.length L rfl hown5 g9 q rfl hB5 hLl hbs ?_; intro v6 w6 hown6 hgrow6 _)
          | fail)
        clear hbit
        have hb6 : Below w4.heap.size w4 w6 := below_own2 hb5 hgrow6 (fun g e => (hown5.lt g e).1)
        go_roundw
        case rel => (go_light; exact ⟨k + 1, L ++ [q], by go_num, k2, hnx, by rw [List.length_append]; exact hown6, hb6⟩)
        case measure => (go_light; simp [intOf]; omega)
    · have hd : decide ((k : Int) < (x.m : Int)) = false := by simp; omega
      have hd2 : decide (k < x.m) = false := by simp; omega
      have hLs : L.Sublist x.r := hL.trans (List.take_sublist _ _)
      obtain ⟨A6, c6, rfl, hRd, -⟩ := own_form hown
      have hb6 := bel hb hbr
      have hP6 := hP.below hbr
      have hM6 := hM.below hbr
      have hxw := hx.below hb6
      have hL4 : L.length ≤ 4 := by
        have h9 := hLs.length_le
        have h8 := HRN.out
        omega
      have hx2 : CsAt wr ⟨x.nd, x.A, x.n, x.c, x.l, x.SA, x.sn, x.sc, x.ss, A6, L.length, c6, L⟩ := ⟨hxw.net, hxw.shifts, ⟨rfl, by rw [reqCells_flat]; exact hRd, fun q hq => hxw.reqs.2.2 q (hLs.subset hq)⟩, hx.b1, hx.b2, hx.b3, (show L.length ≤ 1000000000 by omega), fun q hq => hx.b5 q (hLs.subset hq)⟩
      have p0 := hP6.c0
      have p1 := hP6.c1
      obtain ⟨e2, he2⟩ : ∃ e2, e2 = (K.plan x.nd x.l x.ss L).2 := ⟨_, rfl⟩
      have v2 := K.plan_vals (nd := x.nd) (l := x.l) (ss := x.ss) (r := L)
      rw [← he2] at v2
      have HPL := Lib.hid (show (e1 = 0 → e2 = 0) ∧ (e2 = 4 → e1 = 4 ∨ e1 = 1) by rw [HE1.out, he2]; exact K.parts_law (by rw [← HRN.out]; exact h2) hLs)
      clear hlt hown hRd hL hLs hk
      go_wp2_with fail
      refine (plan32_any _ _ hx2).mono ?_
      dsimp only
      rintro e w7 ⟨⟨PB, bn, bc, bl, rfl, -, -, -⟩, b7⟩
      rw [← he2]
      clear hd hd2 he2 hx2 p0 p1
      have hP7 := hP6.below b7
      have hM7 := hM6.below b7
      have hb7 := bel hb6 b7
      clear hP6 hM6 b7 hb6 hxw
      have p0 := hP7.c0
      have p1 := hP7.c1
      obtain ⟨m0, m1, m2, m3, m4, m5⟩ := hM7.cells
      have v1 := K.plan_vals (nd := x.nd) (l := x.l) (ss := x.ss) (r := x.r)
      rw [← HE1.out] at v1
      go_upto_region 12 with fail
      clear p0 p1 m0 m1 m2 m3 m4 m5
      go_cut [94] from 77 to 94 (fun v94 wc => v94 = .bool false ∧ wc = w7)
      case first =>
        clear HE1
        rcases v1 with rfl | rfl | rfl | rfl <;> rcases v2 with rfl | rfl | rfl | rfl
        all_goals first
          | (exfalso; have h9 := HPL.out; revert h9; decide)
          | (clear HPL; go_wp2_with fail; go_meet; exact ⟨rfl, rfl⟩)
      case rest =>
        obtain ⟨rfl, hwc⟩ := hcut
        rw [hwc]
        clear hwc v1 v2 HPL
        have p0 := hP7.c0
        have p1 := hP7.c1
        obtain ⟨m0, m1, m2, m3, m4, m5⟩ := hM7.cells
        by_cases hsn : x.sn = 2
        · have d1 : ((x.sn : Int) == 2) = true := by rw [hsn]; rfl
          have d2 : decide ((x.sn : Int) = 2) = true := by rw [hsn]; rfl
          clear hsn
          go_wp2_with fail
          go_ret
          exact ⟨rfl, hb7⟩
        have d1 : ((x.sn : Int) == 2) = false := by simp; omega
        have d2 : decide ((x.sn : Int) = 2) = false := by simp; omega
        obtain ⟨ct, hct⟩ : ∃ ct, ct = T.check s := ⟨_, rfl⟩
        have HCT := Lib.hid hct
        have CC := check_any s w7 (hI.below hb7) (by omega)
        rw [← hct] at CC
        clear hct
        go_wp2_with fail
        refine CC.mono ?_
        rintro e w8 ⟨rfl, b8⟩
        have hP8 := hP7.below b8
        have hM8 := hM7.below b8
        have hb8 := bel hb7 b8
        clear CC d1 d2 p0 p1 m0 m1 m2 m3 m4 m5 hP7 hM7 hb7 b8
        have p0 := hP8.c0
        have p1 := hP8.c1
        obtain ⟨m0, m1, m2, m3, m4, m5⟩ := hM8.cells
        by_cases hc0 : ct = 0
        rotate_left
        · have d1 : (ct != 0) = true := by simp [bne, hc0]
          go_wp2_with fail
          go_ret
          exact ⟨rfl, hb8⟩
        subst hc0
        by_cases hdp : x.nd ≤ s.depot
        · have d1 : decide (x.nd ≤ s.depot) = true := decide_eq_true hdp
          go_wp2_with fail
          go_ret
          exact ⟨rfl, hb8⟩
        have d1 : decide (x.nd ≤ s.depot) = false := decide_eq_false hdp
        obtain ⟨gg, hgg⟩ : ∃ gg, gg = (K.plan x.nd x.l (s :: x.ss) x.r).2 := ⟨_, rfl⟩
        obtain ⟨hh, hhh⟩ : ∃ hh, hh = (K.plan x.nd x.l (x.ss ++ [s]) x.r).2 := ⟨_, rfl⟩
        have HML := Lib.hid (show gg = hh ∧ (e1 = 0 → gg = 0) by
          rw [hgg, hhh, HE1.out]
          exact K.more_law s (by rw [← HSN.out]; exact h1) HCT.out.symm (by omega))
        have HGG := Lib.hid hgg
        have HHH := Lib.hid hhh
        clear hgg hhh hdp hsn
        obtain ⟨i0, hi, hz0, hz1, hz2⟩ := info_parts Try.info43
        have hmk : ∀ w', Below w8.heap.size w8 w' → (fun w' : World => w'.cell? ⟨w.heap.size, 0, none⟩ = some (.int .i64 x.nd) ∧ w'.cell? ⟨w.heap.size, 1, none⟩ = some (.slice x.A x.n x.c) ∧ w'.cell? ⟨w.heap.size + 1, 0, none⟩ = some (.int .i64 s.day) ∧ w'.cell? ⟨w.heap.size + 1, 1, none⟩ = some (.int .i64 s.depot) ∧ w'.cell? ⟨w.heap.size + 1, 2, none⟩ = some (.int .i64 s.start) ∧ w'.cell? ⟨w.heap.size + 1, 3, none⟩ = some (.int .i64 s.end_) ∧ w'.cell? ⟨w.heap.size + 1, 4, none⟩ = some (.int .i64 s.tare) ∧ w'.cell? ⟨w.heap.size + 1, 5, none⟩ = some (.slice s.A s.n s.c)) w' := fun w' h => by
          have mv : ∀ {p : Addr} {v : Value}, w8.cell? p = some v → w'.cell? p = some v := fun g => (h.cell (cell_lt g)).trans g
          exact ⟨mv p0, mv p1, mv m0, mv m1, mv m2, mv m3, mv m4, mv m5⟩
        have hal : ∀ (w' : World) (o : Obj), Below w8.heap.size w8 w' → Below w8.heap.size w8 (w'.alloc o) := fun w' o h => bel h ((Below.refl _ _).alloc (Nat.le_refl _) o)
        have hdr : ∀ w' : World, Below w8.heap.size w8 w' → Below w8.heap.size w8 w'.drew := fun w' h => h.drew
        have hB0 : Below w8.heap.size w8 w8 := Below.refl _ _
        have hxw := hx.below hb8
        have hIw := hI.below hb8
        have hlit : (w8.alloc (.cells #[.int .i64 s.day, .int .i64 s.depot, .int .i64 s.start, .int .i64 s.end_, .int .i64 s.tare, .slice s.A s.n s.c] 43)).ownsRow w8.heap.size 43 6 (.slice (some ⟨w8.heap.size, 0, none⟩) 1 1) 1 s.cells := World.ownsRow_lit w8 s.cells.toArray 1 (Nat.le_refl _) (by simp only [maxLen]; omega) rfl
        have hlitd := own_below hlit (Below.refl _ _).drew
        have hrd : ∀ w', Below w8.heap.size w8 w' → Rd w' 6 x.SA x.sn (x.ss.flatMap S.cells) := fun w' h => (hxw.below h).shifts.1.2
        have hone : ∀ u ∈ x.ss.flatMap S.cells, u.oneCell' = true := fun u hu => by
          obtain ⟨s9, -, hu⟩ := List.mem_flatMap.1 hu
          simp [S.cells] at hu
          rcases hu with rfl | rfl | rfl | rfl | rfl | rfl <;> rfl
        have CP1 : ∀ (w' : World) (v' : Value), w'.ownsRow w8.heap.size 43 6 v' (1 + x.sn) (s.cells ++ x.ss.flatMap S.cells) → Below w8.heap.size w8 w' → ∃ A9 c9, v' = .slice A9 (1 + x.sn) c9 ∧ ∀ w'', Below w'.heap.size w' w'' → Calls Try.prog 12 #[.agg #[.int .i64 x.nd, .slice x.A x.n x.c], .slice A9 (1 + x.sn) c9, .slice x.B x.m x.d] w'' fun e w3 => (∃ P n c, e = .returned (.tuple #[.slice P n c, .int .i64 gg])) ∧ Below w8.heap.size w8 w3 := fun w' v' ho hb' => by
          obtain ⟨A9, c9, rfl, hRd9, -⟩ := own_form ho
          refine ⟨A9, c9, rfl, fun w'' hb2 => ?_⟩
          have hxx := hxw.below (bel hb' hb2)
          have h9 := plan32_any ⟨x.nd, x.A, x.n, x.c, x.l, A9, 1 + x.sn, c9, s :: x.ss, x.B, x.m, x.d, x.r⟩ w'' ⟨hxx.net, ⟨⟨show 1 + x.sn = x.ss.length + 1 by have := HSN.out; omega, hRd9.below hb2⟩, fun y hy => (by
            rcases List.mem_cons.1 hy with rfl | hy
            · exact hIw.below (bel hb' hb2)
            · exact hxx.shifts.2 y hy)⟩, hxx.reqs, hx.b1, fun y hy => (by
            rcases List.mem_cons.1 hy with rfl | hy
            · omega
            · exact hx.b2 y hy), (show 1 + x.sn ≤ 1000000000 by omega), hx.b4, hx.b5⟩
          refine h9.mono fun e w3 h => ?_
          obtain ⟨⟨P, n, c, pl9, e9, -⟩, hb3⟩ := h
          exact ⟨⟨P, n, c, by rw [e9, ← HGG.out]⟩, bel (bel hb' hb2) hb3⟩
        go_wp2_with fail
        clear d1
        go_region_held3 (fun w' : World => w'.cell? ⟨w.heap.size, 0, none⟩ = some (.int .i64 x.nd) ∧ w'.cell? ⟨w.heap.size, 1, none⟩ = some (.slice x.A x.n x.c) ∧ w'.cell? ⟨w.heap.size + 1, 0, none⟩ = some (.int .i64 s.day) ∧ w'.cell? ⟨w.heap.size + 1, 1, none⟩ = some (.int .i64 s.depot) ∧ w'.cell? ⟨w.heap.size + 1, 2, none⟩ = some (.int .i64 s.start) ∧ w'.cell? ⟨w.heap.size + 1, 3, none⟩ = some (.int .i64 s.end_) ∧ w'.cell? ⟨w.heap.size + 1, 4, none⟩ = some (.int .i64 s.tare) ∧ w'.cell? ⟨w.heap.size + 1, 5, none⟩ = some (.slice s.A s.n s.c))
          ((refine hmk _ ?_; repeat (first | with_reducible assumption | with_reducible refine hal _ _ ?_ | with_reducible refine hdr _ ?_ | fail)))
          (first
            | (refine step_append_rd rfl (.tmp 114) (.tmp 115) 25 rfl w8.heap.size 43 i0 (.agg #[.int .i64 0, .int .i64 0, .int .i64 0, .int .i64 0, .int .i64 0, .slice none 0 0]) 6 64 Try.underlying25 hi hz0 hz1 hz2 rfl (by decide) (.slice (some ⟨w8.heap.size, 0, none⟩) 1 1) 1 s.cells rfl hlitd x.SA x.sn x.sc (x.ss.flatMap S.cells) rfl (hrd _ (hdr _ (hal _ _ hB0))) hone (by simp only [maxLen]; omega) (by omega) (hdr _ (hal _ _ hB0)).size ?_; intro v9 w9 hown9 hgrow9 _; have hB9 := (hdr _ (hal _ _ hB0)).grown hgrow9 (hal _ _ hB0).size (fun g e => (hlit.lt g e).1); obtain ⟨A9, c9, rfl, CP⟩ := CP1 _ _ hown9 hB9)
            | (go_at_call 12; with_reducible refine (CP _ ?_).mono ?_; (first | exact Below.refl _ _ | exact (Below.refl _ _).drew); rintro e w10 ⟨⟨P9, n9, c9', rfl⟩, hB10⟩)
            | fail)
        have hP10 := hP8.below hB10
        have hM10 := hM8.below hB10
        have hb10 := bel hb8 hB10
        clear p0 p1 m0 m1 m2 m3 m4 m5 hlit hlitd hrd CP1 CP hmk hal hdr hB0 hB9 hown9 hgrow9 hB10 hP8 hM8 hxw hIw
        have p0 := hP10.c0
        have p1 := hP10.c1
        obtain ⟨m0, m1, m2, m3, m4, m5⟩ := hM10.cells
        have hmk : ∀ w', Below w10.heap.size w10 w' → (fun w' : World => w'.cell? ⟨w.heap.size, 0, none⟩ = some (.int .i64 x.nd) ∧ w'.cell? ⟨w.heap.size, 1, none⟩ = some (.slice x.A x.n x.c) ∧ w'.cell? ⟨w.heap.size + 1, 0, none⟩ = some (.int .i64 s.day) ∧ w'.cell? ⟨w.heap.size + 1, 1, none⟩ = some (.int .i64 s.depot) ∧ w'.cell? ⟨w.heap.size + 1, 2, none⟩ = some (.int .i64 s.start) ∧ w'.cell? ⟨w.heap.size + 1, 3, none⟩ = some (.int .i64 s.end_) ∧ w'.cell? ⟨w.heap.size + 1, 4, none⟩ = some (.int .i64 s.tare) ∧ w'.cell? ⟨w.heap.size + 1, 5, none⟩ = some (.slice s.A s.n s.c)) w' := fun w' h => by
          have mv : ∀ {p : Addr} {v : Value}, w10.cell? p = some v → w'.cell? p = some v := fun g => (h.cell (cell_lt g)).trans g
          exact ⟨mv p0, mv p1, mv m0, mv m1, mv m2, mv m3, mv m4, mv m5⟩
        have hal : ∀ (w' : World) (o : Obj), Below w10.heap.size w10 w' → Below w10.heap.size w10 (w'.alloc o) := fun w' o h => bel h ((Below.refl _ _).alloc (Nat.le_refl _) o)
        have hdr : ∀ w' : World, Below w10.heap.size w10 w' → Below w10.heap.size w10 w'.drew := fun w' h => h.drew
        have hgr : ∀ (W w' : World) (r : Option Nat), Below w10.heap.size w10 W → W.grownBy w' r → (∀ g, r = some g → w10.heap.size ≤ g) → Below w10.heap.size w10 w' := fun W w' r h hg hr => h.grown hg h.size hr
        have hB0 : Below w10.heap.size w10 w10 := Below.refl _ _
        have hxw := hx.below hb10
        have hIw := hI.below hb10
        have hrd : ∀ w', Below w10.heap.size w10 w' → Rd w' 6 x.SA x.sn (x.ss.flatMap S.cells) := fun w' h => (hxw.below h).shifts.1.2
        have hone1 : ∀ u ∈ s.cells, u.oneCell' = true := fun u hu => by
          simp [S.cells] at hu
          rcases hu with rfl | rfl | rfl | rfl | rfl | rfl <;> rfl
        have CP2 : ∀ (w' : World) (v' : Value), w'.ownsRow w10.heap.size 43 6 v' (x.sn + 1) (x.ss.flatMap S.cells ++ s.cells) → Below w10.heap.size w10 w' → ∃ A9 c9, v' = .slice A9 (x.sn + 1) c9 ∧ ∀ w'', Below w'.heap.size w' w'' → Calls Try.prog 12 #[.agg #[.int .i64 x.nd, .slice x.A x.n x.c], .slice A9 (x.sn + 1) c9, .slice x.B x.m x.d] w'' fun e w3 => (∃ P n c, e = .returned (.tuple #[.slice P n c, .int .i64 hh])) ∧ Below w10.heap.size w10 w3 := fun w' v' ho hb' => by
          obtain ⟨A9, c9, rfl, hRd9, -⟩ := own_form ho
          refine ⟨A9, c9, rfl, fun w'' hb2 => ?_⟩
          have hxx := hxw.below (bel hb' hb2)
          have h9 := plan32_any ⟨x.nd, x.A, x.n, x.c, x.l, A9, x.sn + 1, c9, x.ss ++ [s], x.B, x.m, x.d, x.r⟩ w'' ⟨hxx.net, ⟨⟨by have := HSN.out; show x.sn + 1 = (x.ss ++ [s]).length; rw [List.length_append]; simp; omega, by rw [List.flatMap_append]; have h8 := hRd9.below hb2; simpa using h8⟩, fun y hy => (by
            rcases List.mem_append.1 hy with hy | hy
            · exact hxx.shifts.2 y hy
            · rw [List.mem_singleton.1 hy]; exact hIw.below (bel hb' hb2))⟩, hxx.reqs, hx.b1, fun y hy => (by
            rcases List.mem_append.1 hy with hy | hy
            · exact hx.b2 y hy
            · rw [List.mem_singleton.1 hy]; omega), (show x.sn + 1 ≤ 1000000000 by omega), hx.b4, hx.b5⟩
          refine h9.mono fun e w3 h => ?_
          obtain ⟨⟨P, n, c, pl9, e9, -⟩, hb3⟩ := h
          exact ⟨⟨P, n, c, by rw [e9, ← HHH.out]⟩, bel (bel hb' hb2) hb3⟩
        have hsm9 : 0 + x.sn ≤ 1000000 := by omega
        have hsm8 : x.sn + 1 ≤ 1000000 := by omega
        have bla : Below w10.heap.size w10 (w10.alloc (.cells #[] 43)).drew := hdr _ (hal _ _ hB0)
        have hla : (w10.alloc (.cells #[] 43)).drew.ownsRow w10.heap.size 43 6 (.slice (some ⟨w10.heap.size, 0, none⟩) 0 0) 0 [] := own_below (own_lit (heap_alloc_new w10 (.cells #[] 43)) (Nat.le_refl _)) (Below.refl _ _).drew
        have hra := hrd _ bla
        have hoa : w10.heap.size ≤ w10.heap.size := Nat.le_refl _
        have blb : Below w10.heap.size w10 ((w10.alloc (.cells #[] 43)).alloc (.cells #[.int .i64 s.day, .int .i64 s.depot, .int .i64 s.start, .int .i64 s.end_, .int .i64 s.tare, .slice s.A s.n s.c] 43)).drew := hdr _ (hal _ _ (hal _ _ hB0))
        have hlb : ((w10.alloc (.cells #[] 43)).alloc (.cells #[.int .i64 s.day, .int .i64 s.depot, .int .i64 s.start, .int .i64 s.end_, .int .i64 s.tare, .slice s.A s.n s.c] 43)).drew.ownsRow w10.heap.size 43 6 (.slice (some ⟨w10.heap.size, 0, none⟩) 0 0) 0 [] := own_below (own_lit (blk_alloc (heap_alloc_new w10 (.cells #[] 43)) _) (Nat.le_refl _)) (Below.refl _ _).drew
        have hrb := hrd _ blb
        have hob : w10.heap.size ≤ w10.heap.size := Nat.le_refl _
        have hkb : ((w10.alloc (.cells #[] 43)).alloc (.cells #[.int .i64 s.day, .int .i64 s.depot, .int .i64 s.start, .int .i64 s.end_, .int .i64 s.tare, .slice s.A s.n s.c] 43)).drew.heap[w10.heap.size + 1]? = some (.cells #[.int .i64 s.day, .int .i64 s.depot, .int .i64 s.start, .int .i64 s.end_, .int .i64 s.tare, .slice s.A s.n s.c] 43 (0, 0)) := heap_alloc_at (w10.alloc (.cells #[] 43)) (.cells #[.int .i64 s.day, .int .i64 s.depot, .int .i64 s.start, .int .i64 s.end_, .int .i64 s.tare, .slice s.A s.n s.c] 43) (w10.heap.size + 1) (World.size_alloc _ _).symm
        have hneb : w10.heap.size + 1 ≠ w10.heap.size := by omega
        have blc : Below w10.heap.size w10 ((w10.alloc (.cells #[.int .i64 s.day, .int .i64 s.depot, .int .i64 s.start, .int .i64 s.end_, .int .i64 s.tare, .slice s.A s.n s.c] 43)).alloc (.cells #[] 43)).drew := hdr _ (hal _ _ (hal _ _ hB0))
        have hlc : ((w10.alloc (.cells #[.int .i64 s.day, .int .i64 s.depot, .int .i64 s.start, .int .i64 s.end_, .int .i64 s.tare, .slice s.A s.n s.c] 43)).alloc (.cells #[] 43)).drew.ownsRow w10.heap.size 43 6 (.slice (some ⟨w10.heap.size + 1, 0, none⟩) 0 0) 0 [] := own_below (own_lit (heap_alloc_at (w10.alloc (.cells #[.int .i64 s.day, .int .i64 s.depot, .int .i64 s.start, .int .i64 s.end_, .int .i64 s.tare, .slice s.A s.n s.c] 43)) (.cells #[] 43) _ (World.size_alloc _ _).symm) (by omega)) (Below.refl _ _).drew
        have hrc := hrd _ blc
        have hoc : w10.heap.size ≤ w10.heap.size + 1 := by omega
        have hkc : ((w10.alloc (.cells #[.int .i64 s.day, .int .i64 s.depot, .int .i64 s.start, .int .i64 s.end_, .int .i64 s.tare, .slice s.A s.n s.c] 43)).alloc (.cells #[] 43)).drew.heap[w10.heap.size]? = some (.cells #[.int .i64 s.day, .int .i64 s.depot, .int .i64 s.start, .int .i64 s.end_, .int .i64 s.tare, .slice s.A s.n s.c] 43 (0, 0)) := blk_alloc (heap_alloc_new w10 (.cells #[.int .i64 s.day, .int .i64 s.depot, .int .i64 s.start, .int .i64 s.end_, .int .i64 s.tare, .slice s.A s.n s.c] 43)) (.cells #[] 43)
        have hnec : w10.heap.size ≠ w10.heap.size + 1 := by omega
        go_wp2_with fail
        go_region_held3 (fun w' : World => w'.cell? ⟨w.heap.size, 0, none⟩ = some (.int .i64 x.nd) ∧ w'.cell? ⟨w.heap.size, 1, none⟩ = some (.slice x.A x.n x.c) ∧ w'.cell? ⟨w.heap.size + 1, 0, none⟩ = some (.int .i64 s.day) ∧ w'.cell? ⟨w.heap.size + 1, 1, none⟩ = some (.int .i64 s.depot) ∧ w'.cell? ⟨w.heap.size + 1, 2, none⟩ = some (.int .i64 s.start) ∧ w'.cell? ⟨w.heap.size + 1, 3, none⟩ = some (.int .i64 s.end_) ∧ w'.cell? ⟨w.heap.size + 1, 4, none⟩ = some (.int .i64 s.tare) ∧ w'.cell? ⟨w.heap.size + 1, 5, none⟩ = some (.slice s.A s.n s.c))
          ((refine hmk _ ?_; repeat (first | with_reducible assumption | with_reducible refine hal _ _ ?_ | with_reducible refine hdr _ ?_ | fail)))
          (first
            | (with_reducible refine step_app_shifts (.tmp 123) (.tmp 124) w10.heap.size (.slice (some ⟨w10.heap.size, 0, none⟩) 0 0) 0 [] hla x.SA x.sn x.sc (x.ss.flatMap S.cells) hra hone hsm9 bla.size ?_ ?_ ?_ ?_ ?_; exact rfl; exact rfl; (simp [go_sem]); (simp [go_sem]); intro v1 wA hown1 hgrow1 _; have hBA := hgr _ _ _ bla hgrow1 (lit_block hoa); rw [Nat.zero_add, List.nil_append] at hown1; have o2 := World.ownsRow.alloc hown1 (.cells #[.int .i64 s.day, .int .i64 s.depot, .int .i64 s.start, .int .i64 s.end_, .int .i64 s.tare, .slice s.A s.n s.c] 43); have r2 : Rd (wA.alloc (.cells #[.int .i64 s.day, .int .i64 s.depot, .int .i64 s.start, .int .i64 s.end_, .int .i64 s.tare, .slice s.A s.n s.c] 43)) 6 (some ⟨wA.heap.size, 0, none⟩) 1 s.cells := Rd.of_block (cs := s.cells.toArray) (heap_alloc_new wA (.cells #[.int .i64 s.day, .int .i64 s.depot, .int .i64 s.start, .int .i64 s.end_, .int .i64 s.tare, .slice s.A s.n s.c] 43)) 6 1 rfl; have B2 := hal _ (.cells #[.int .i64 s.day, .int .i64 s.depot, .int .i64 s.start, .int .i64 s.end_, .int .i64 s.tare, .slice s.A s.n s.c] 43) hBA; have o3 := own_below o2 (Below.refl _ _).drew; have r3 := r2.below (Below.refl _ _).drew; have B3 := hdr _ B2)
            | (with_reducible refine step_app_shifts (.tmp 123) (.tmp 124) w10.heap.size (.slice (some ⟨w10.heap.size, 0, none⟩) 0 0) 0 [] hlb x.SA x.sn x.sc (x.ss.flatMap S.cells) hrb hone hsm9 blb.size ?_ ?_ ?_ ?_ ?_; exact rfl; exact rfl; (simp [go_sem]); (simp [go_sem]); intro v1 wA hown1 hgrow1 _; have hBA := hgr _ _ _ blb hgrow1 (lit_block hob); rw [Nat.zero_add, List.nil_append] at hown1; have hT1 := grow_blk hgrow1 (o := .cells #[.int .i64 s.day, .int .i64 s.depot, .int .i64 s.start, .int .i64 s.end_, .int .i64 s.tare, .slice s.A s.n s.c] 43 (0, 0)) hkb (lit_ne hneb); have o2 := hown1; have r2 : Rd wA 6 (some ⟨w10.heap.size + 1, 0, none⟩) 1 s.cells := Rd.of_block (cs := s.cells.toArray) hT1 6 1 rfl; have B2 := hBA; have o3 := own_below o2 (Below.refl _ _).drew; have r3 := r2.below (Below.refl _ _).drew; have B3 := hdr _ B2)
            | (with_reducible refine step_app_shifts (.tmp 123) (.tmp 124) w10.heap.size (.slice (some ⟨w10.heap.size + 1, 0, none⟩) 0 0) 0 [] hlc x.SA x.sn x.sc (x.ss.flatMap S.cells) hrc hone hsm9 blc.size ?_ ?_ ?_ ?_ ?_; exact rfl; exact rfl; (simp [go_sem]); (simp [go_sem]); intro v1 wA hown1 hgrow1 _; have hBA := hgr _ _ _ blc hgrow1 (lit_block hoc); rw [Nat.zero_add, List.nil_append] at hown1; have hT1 := grow_blk hgrow1 (o := .cells #[.int .i64 s.day, .int .i64 s.depot, .int .i64 s.start, .int .i64 s.end_, .int .i64 s.tare, .slice s.A s.n s.c] 43 (0, 0)) hkc (lit_ne hnec); have o2 := hown1; have r2 : Rd wA 6 (some ⟨w10.heap.size, 0, none⟩) 1 s.cells := Rd.of_block (cs := s.cells.toArray) hT1 6 1 rfl; have B2 := hBA; have o3 := own_below o2 (Below.refl _ _).drew; have r3 := r2.below (Below.refl _ _).drew; have B3 := hdr _ B2)
            | (with_reducible refine step_app_shifts (.tmp 125) (.tmp 127) w10.heap.size v1 x.sn (x.ss.flatMap S.cells) o2 _ 1 1 s.cells r2 hone1 hsm8 B2.size ?_ ?_ ?_ ?_ ?_; exact rfl; exact rfl; (simp [go_sem]); (simp [go_sem]); intro v2 wB hown2 hgrow2 _; have hBB := hgr _ _ _ B2 hgrow2 (fun g e => (hown1.lt g e).1); obtain ⟨A11, c11, rfl, CQ⟩ := CP2 _ _ hown2 hBB)
            | (with_reducible refine step_app_shifts (.tmp 125) (.tmp 127) w10.heap.size v1 x.sn (x.ss.flatMap S.cells) o3 _ 1 1 s.cells r3 hone1 hsm8 B3.size ?_ ?_ ?_ ?_ ?_; exact rfl; exact rfl; (simp [go_sem]); (simp [go_sem]); intro v2 wB hown2 hgrow2 _; have hBB := hgr _ _ _ B3 hgrow2 (fun g e => (hown1.lt g e).1); obtain ⟨A11, c11, rfl, CQ⟩ := CP2 _ _ hown2 hBB)
            | (go_at_call 12; with_reducible refine (CQ _ ?_).mono ?_; (first | exact Below.refl _ _ | exact (Below.refl _ _).drew); rintro e w12 ⟨⟨P12, n12, c12, rfl⟩, hB12⟩)
            | fail)
        all_goals
          have hb12 := bel hb10 hB12
          obtain ⟨hgh, hge⟩ := HML.out
          subst hgh
          clear HML HGG HHH HE1 hlb hla hlc hra hrb hrc hkb hkc hneb hnec bla blb blc CP2 CQ hmk hal hdr hgr hrd
          by_cases he : e1 = 0
          · subst he
            obtain rfl := hge rfl
            go_wp2_with fail
            go_ret
            exact ⟨rfl, hb12⟩
          · have dd : (e1 != 0) = true := by simp [bne, he]
            clear hge he
            go_wp2_with fail
            go_ret
            exact ⟨rfl, hb12⟩
end Go.Proofs.Ytippdjmpkafifaa
