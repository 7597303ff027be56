/-
The reference's contract for tours: one leg.
-/
import Derived.Test.YtjcdpfpdjcannaaN7
namespace Go.Proofs.Ytjcdpfpdjcannaa
open Go.RowKit

theorem lit_rd {w : World} {g : Nat} {i : Int} (h : w.heap[g]? = some (.cells #[.int .i64 i] 3 (0, 0))) : Rd w 1 (some ⟨g, 0, none⟩) 1 [.int .i64 i] :=
  ⟨rfl, fun _ => ⟨_, rfl, fun j u hu => by
    cases j with
    | zero =>
      have hu : some (Value.int .i64 i) = some u := hu
      injection hu with hu
      subst hu
      exact blk_cell h 0 _ rfl
    | succ j => simp at hu⟩⟩

def Leg (x : C) (v : List Int) (i a t : Int) (w w' : World) (e : Ending) : Prop := e = .returned (.tuple #[.int .i64 (K.leg x.nd x.l x.s x.r v i a t).1, .int .i64 (K.leg x.nd x.l x.s x.r v i a t).2]) ∧ Below w.heap.size w w'
theorem leg_mk' {x : C} {v : List Int} {i a t b er : Int} {w w' : World} (h : K.leg x.nd x.l x.s x.r v i a t = (b, er)) (hb : Below w.heap.size w w') : Leg x v i a t w w' (.returned (.tuple #[.int .i64 b, .int .i64 er])) := ⟨by rw [h], hb⟩

set_option maxRecDepth 100000 in
set_option maxHeartbeats 16000000 in
theorem leg_any (x : C) (V : Option Addr) (vn vc : Nat) (v : List Int) (i : Nat) (q : Q) (a t : Int) (w : World) (hx : At w x) (hV : Ints w V vn v) (hvn : vn ≤ 100000) (hne : K.netErr x.nd x.l = 0) (ha : 0 ≤ a ∧ a < x.nd) (hq : x.r[i]? = some q) (hno : 0 ≤ q.node ∧ q.node < x.nd) (ht : 0 ≤ t ∧ t ≤ 1000000)
    (hse : 0 ≤ q.service ∧ q.service ≤ 1000000) :
    Calls Try.prog 50 #[.agg #[.int .i64 x.nd, .slice x.A x.n x.c], .agg #[.int .i64 x.s.day, .int .i64 x.s.depot, .int .i64 x.s.start, .int .i64 x.s.end_, .int .i64 x.s.tare, .slice x.s.A x.s.n x.s.c], .slice x.B x.m x.d, .slice V vn vc, .int .i64 i, .int .i64 a, .int .i64 t] w fun e w' => Leg x v i a t w w' e := by
  have him : i < x.m := by rw [hx.reqs.1]; exact (List.getElem?_eq_some_iff.1 hq).1
  obtain ⟨w1, hw1⟩ : ∃ w1 : World, w1 = w.alloc (.cells #[.int .i64 x.nd, .slice x.A x.n x.c] 24) := ⟨_, rfl⟩
  obtain ⟨w2, hw2⟩ : ∃ w2 : World, w2 = w1.alloc (.cells #[.int .i64 x.s.day, .int .i64 x.s.depot, .int .i64 x.s.start, .int .i64 x.s.end_, .int .i64 x.s.tare, .slice x.s.A x.s.n x.s.c] 27) := ⟨_, rfl⟩
  obtain ⟨w3, hw3⟩ : ∃ w3 : World, w3 = w2.alloc (.cells #[.int .i64 q.node, .int .i64 q.room, .int .i64 q.kilos, .int .i64 q.service, .int .i64 q.frm, .int .i64 q.by_, .slice q.A q.n q.c] 41) := ⟨_, rfl⟩
  have z1 : w1.heap.size = w.heap.size + 1 := by rw [hw1]; exact World.size_alloc _ _
  have z2 : w2.heap.size = w.heap.size + 1 + 1 := by rw [hw2, World.size_alloc, z1]
  have b01 : Below w.heap.size w w1 := by rw [hw1]; exact (Below.refl _ _).alloc (Nat.le_refl _) _
  have b12 : Below w1.heap.size w1 w2 := by rw [hw2]; exact (Below.refl _ _).alloc (Nat.le_refl _) _
  have b23 : Below w2.heap.size w2 w3 := by rw [hw3]; exact (Below.refl _ _).alloc (Nat.le_refl _) _
  have hP : Net w3 w.heap.size x.nd x.A x.n x.c := by
    have h1 : Net w1 w.heap.size x.nd x.A x.n x.c := by rw [hw1]; exact Net.new _ _ _ _ _
    exact (h1.below b12).below b23
  have hS : Shf w3 (w.heap.size + 1) x.s := by
    have h1 : Shf w2 (w.heap.size + 1) x.s := by rw [← z1, hw2]; exact Shf.new _ _
    exact h1.below b23
  have hQ : QBlk w3 (w.heap.size + 1 + 1) q := by rw [← z2, hw3]; exact QBlk.new w2 q
  have hb := bel (bel b01 b12) b23
  obtain ⟨ad, q', hB, hgq, hwq, e0, e1, e2, e3, e4, e5, e6⟩ := (hx.reqs.below (bel b01 b12)).at_ him
  rw [hq] at hgq
  injection hgq with hgq
  subst hgq
  have HRQ := Lib.hid (K.req_get hq)
  have hqn := hx.b4 q (List.mem_of_getElem? hq)
  have i0 : (0 : Int) ≤ (i : Int) := by omega
  have i1 : (i : Int) < (x.m : Int) := by omega
  have HB := Lib.hid hB
  clear hq
  rw [hw2, hw1] at e0 e1 e2 e3 e4 e5 e6
  rw [hB]
  cases d1 : decide (x.s.day < q.frm)
  rotate_left
  · have HX := Lib.hid (show K.leg x.nd x.l x.s x.r v i a t = (0, 17) by unfold K.leg; rw [HRQ.out, if_pos (.inl (by simpa using d1))])
    clear hB
    go_enter Try.func50, Try.ntmps50
    go_wp2_with fail
    go_ret2
    rw [← hw1, ← hw2, ← hw3]
    exact leg_mk' HX.out hb
  cases d2 : decide (q.by_ < x.s.day)
  rotate_left
  · have HX := Lib.hid (show K.leg x.nd x.l x.s x.r v i a t = (0, 17) by unfold K.leg; rw [HRQ.out, if_pos (.inr (by simpa using d2))])
    clear hB
    go_enter Try.func50, Try.ntmps50
    go_wp2_with fail
    go_ret2
    rw [← hw1, ← hw2, ← hw3]
    exact leg_mk' HX.out hb
  have HD := Lib.hid (show ¬ (x.s.day < (K.req x.r i).frm ∨ (K.req x.r i).by_ < x.s.day) by rw [HRQ.out]; simp at d1 d2; omega)
  clear hB
  go_enter Try.func50, Try.ntmps50
  go_wp2_with fail
  rw [← hw1, ← hw2, ← hw3]
  clear e0 e1 e2 e3 e4 e5 e6 i0 i1 z1 z2 b01 b12 hw1 hw2 hw3
  have S0 := LAt.mk' hP hS (Below.refl w3.heap.size w3)
  have hAx : ∀ w', LAt w3 w.heap.size x w' → At w' x := fun w' h => hx.below (bel hb h.1)
  have hVx : ∀ w', LAt w3 w.heap.size x w' → Ints w' V vn v := fun w' h => hV.below (bel hb h.1)
  have hSn : ∀ w' w'', LAt w3 w.heap.size x w' → Below w'.heap.size w' w'' → LAt w3 w.heap.size x w'' := fun w' w'' h hb' => LAt.mk' hP hS (bel h.1 hb')
  have hSd : ∀ w', LAt w3 w.heap.size x w' → LAt w3 w.heap.size x w'.drew := fun w' h => LAt.mk' hP hS h.1.drew
  have hSa : ∀ w' o', LAt w3 w.heap.size x w' → LAt w3 w.heap.size x (w'.alloc o') := fun w' o' h => LAt.mk' hP hS (bel h.1 ((Below.refl _ _).alloc (Nat.le_refl _) _))
  have hSg : ∀ (w' w'' : World) (v : Value), LAt w3 w.heap.size x w' → w'.grownBy w'' v.ownBlock → (∀ g, v.ownBlock = some g → w3.heap.size ≤ g) → LAt w3 w.heap.size x w'' := fun w' w'' v h hg hv => LAt.mk' hP hS (h.1.grown hg (Nat.le_trans h.1.size (Nat.le_refl _)) hv)
  obtain ⟨i0, hi, hz0, hz1, hz2⟩ := info_parts Try.info3
  have HVL := Lib.hid hV.1
  clear d1 d2
  obtain ⟨c2, c3, c4⟩ : x.s.n ≤ 1000000000 ∧ x.m ≤ 1000000000 ∧ ∀ q ∈ x.r, q.n ≤ 1000000000 := ⟨hx.b2, hx.b3, hx.b4⟩
  rw [← HB.out]
  go_cut [45] from 36 to 45 (fun v45 wc => v45 = .bool (!(T.fits x.s x.r (v ++ [(i : Int)]))) ∧ Below w3.heap.size w3 wc)
  case first =>
    go_region_held3 (fun w' => Below w3.heap.size w3 w' ∧ w'.cell? ⟨w.heap.size, 0, none⟩ = some (.int .i64 x.nd) ∧ w'.cell? ⟨w.heap.size, 1, none⟩ = some (.slice x.A x.n x.c) ∧ w'.cell? ⟨w.heap.size + 1, 0, none⟩ = some (.int .i64 x.s.day) ∧ w'.cell? ⟨w.heap.size + 1, 1, none⟩ = some (.int .i64 x.s.depot) ∧ w'.cell? ⟨w.heap.size + 1, 2, none⟩ = some (.int .i64 x.s.start) ∧
    w'.cell? ⟨w.heap.size + 1, 3, none⟩ = some (.int .i64 x.s.end_) ∧ w'.cell? ⟨w.heap.size + 1, 4, none⟩ = some (.int .i64 x.s.tare) ∧ w'.cell? ⟨w.heap.size + 1, 5, none⟩ = some (.slice x.s.A x.s.n x.s.c))
      (first | assumption | exact S0 | exact hSd _ (by assumption) | exact hSa _ _ (by assumption) | exact hSa _ _ (hSd _ S0))
      (first
        | (go_at_call 77; refine (rfits29_any x.s x.B x.m x.d x.r _ _ _ (v ++ [(i : Int)]) _ (hAx _ ?_).rooms c2 (hAx _ ?_).reqs c3 c4 hJ (by omega)).mono ?_; assumption; assumption; rintro e w9 ⟨rfl, hbn⟩; have hS9 := hSn _ _ (by assumption) hbn)
        | ((refine step_append_rd rfl (.tmp 38) (.tmp 39) 25 rfl w3.heap.size 3 i0 (.int .i64 0) 1 8 Try.underlying25 hi hz0 hz1 hz2 rfl (by decide) (.slice (some ⟨w3.heap.size, 0, none⟩) 0 0) 0 [] rfl ?_ V vn vc (intCells v) rfl ?_ (intCells_one _) (by simp only [maxLen]; omega) (by omega) ?_ ?_; (first | exact own_lit (heap_alloc_new w3 (.cells #[] 3)) (Nat.le_refl _) | exact own_lit (blk_alloc (heap_alloc_new w3 (.cells #[] 3)) _) (Nat.le_refl _)); (refine (hVx _ (show LAt w3 w.heap.size x _ from ?_)).2; assumption); (refine (And.left (b := _) (show LAt w3 w.heap.size x _ from ?_)).size; assumption)); intro v1 w4 hown1 hgrow1 hat1; have hS1 := hSg _ _ _ (by assumption) hgrow1 (lit_block (by omega)); rw [Nat.zero_add, List.nil_append] at hown1;
            (first | (have hT1 := grow_blk hgrow1 (g := w3.heap.size + 1) (o := (.cells #[.int .i64 (i : Int)] 3)) (heap_alloc_at (w3.alloc (.cells #[] 3)) (.cells #[.int .i64 (i : Int)] 3) (w3.heap.size + 1) (World.size_alloc _ _).symm) (lit_ne (by omega))) | skip))
        | ((refine step_append_rd rfl (.tmp 38) (.tmp 39) 25 rfl w3.heap.size 3 i0 (.int .i64 0) 1 8 Try.underlying25 hi hz0 hz1 hz2 rfl (by decide) (.slice (some ⟨w3.heap.size + 1, 0, none⟩) 0 0) 0 [] rfl ?_ V vn vc (intCells v) rfl ?_ (intCells_one _) (by simp only [maxLen]; omega) (by omega) ?_ ?_; (exact own_lit (heap_alloc_at (w3.alloc (.cells #[.int .i64 (i : Int)] 3)) (.cells #[] 3) _ (World.size_alloc _ _).symm) (by omega)); (refine (hVx _ (show LAt w3 w.heap.size x _ from ?_)).2; assumption); (refine (And.left (b := _) (show LAt w3 w.heap.size x _ from ?_)).size; assumption)); intro v1 w4 hown1 hgrow1 hat1; have hS1 := hSg _ _ _ (by assumption) hgrow1 (lit_block (by omega)); rw [Nat.zero_add, List.nil_append] at hown1;
            (first | (have hT1 := grow_blk hgrow1 (g := w3.heap.size) (o := (.cells #[.int .i64 (i : Int)] 3)) (blk_alloc (heap_alloc_new w3 (.cells #[.int .i64 (i : Int)] 3)) (.cells #[] 3)) (lit_ne (by omega))) | skip))
        | (refine step_append_rd rfl (.tmp 40) (.tmp 42) 25 rfl w3.heap.size 3 i0 (.int .i64 0) 1 8 Try.underlying25 hi hz0 hz1 hz2 rfl (by decide) v1 vn (intCells v) rfl ?_ _ 1 1 [.int .i64 (i : Int)] rfl ?_ (intCells_one [(i : Int)]) (by simp only [maxLen]; omega) (by omega) ?_ ?_; (first | exact hown1 | exact World.ownsRow.alloc hown1 _); (first | exact lit_rd hT1 | exact lit_rd (heap_alloc_new _ (.cells #[.int .i64 (i : Int)] 3))); (refine (And.left (b := _) (show LAt w3 w.heap.size x _ from ?_)).size; assumption); intro v2 w5 hown2 hgrow2 hat2; have hS2 := hSg _ _ _ (by assumption) hgrow2 (fun g e => (hown1.lt g e).1);
            obtain ⟨A9, c9, rfl, hRd9, -⟩ := own_form hown2; have hJ : Ints _ A9 (vn + 1) (v ++ [(i : Int)]) := ⟨by rw [List.length_append, ← HVL.out]; rfl, by rw [intCells_app]; exact hRd9⟩))
    all_goals go_wp2_with fail
    all_goals go_meet
    all_goals exact ⟨rfl, hS9.1⟩
  case rest =>
    obtain ⟨rfl, hbc⟩ := hcut
    have hb := bel hb hbc
    have hP := hP.below hbc
    have hS := hS.below hbc
    have hQ := hQ.below hbc
    have hwq := hwq.below (bel b23 hbc)
    clear S0 hAx hVx hSn hSd hSa hSg hi hz0 hz1 hz2 hbc b23
    cases hf : T.fits x.s x.r (v ++ [(i : Int)])
    · have HX := Lib.hid (show K.leg x.nd x.l x.s x.r v i a t = (0, 20) by unfold K.leg; rw [if_neg HD.out, if_pos hf])
      clear hf
      go_wp2_with fail
      go_ret2
      exact leg_mk' HX.out hb
    have HF := Lib.hid (show ¬ (T.fits x.s x.r (v ++ [(i : Int)]) = false) by rw [hf]; simp)
    clear hf
    obtain ⟨qn, hqn0⟩ : ∃ qn : Nat, q.node = (qn : Int) := ⟨q.node.toNat, by omega⟩
    obtain ⟨s0, s1, s2, s3, s4, s5⟩ := hS.cells
    obtain ⟨q0, q1, q2, q3, q4, q5, q6⟩ := hQ.cells
    rw [hqn0] at q0
    have g0 := Beh.cell hP.c0
    have g1 := Beh.cell hP.c1
    have f0 := Beh.cell s0
    have f1 := Beh.cell s1
    have f2 := Beh.cell s2
    have f3 := Beh.cell s3
    have f4 := Beh.cell s4
    have f5 := Beh.cell s5
    have k0 := Beh.cell q0
    have hA4 := hx.below hb
    have hV4 := hV.below hb
    obtain ⟨wt, hwt⟩ : ∃ wt, wt = T.weight x.s x.r v := ⟨_, rfl⟩
    obtain ⟨y, hy⟩ : ∃ y, y = K.way x.nd x.l a wt qn := ⟨_, rfl⟩
    have CW := fun j : Beh wc => rweight_any x.s x.B x.m x.d x.r V vn vc v j.val ((hA4.below j.property).rooms) c2 ((hA4.below j.property).reqs) c3 c4 (hV4.below j.property) (by omega)
    have CY := fun j : Beh wc => rway_any x.nd x.A x.n x.c x.l a qn wt j.val ((hA4.below j.property).net) hx.b1 hne ha (by omega)
    simp only [← hwt] at CW
    simp only [← hy] at CY
    have hyb := K.way_bd x.nd x.l a wt q.node
    rw [hqn0, ← hy] at hyb
    obtain ⟨hy0, hy1⟩ := hyb
    have HY := Lib.hid (show K.way x.nd x.l a (T.weight x.s x.r v) (K.req x.r i).node = y by rw [HRQ.out, hqn0, ← hwt, hy])
    have HQN := Lib.hid hqn0
    clear hy hwt hqn0 q0 q1 q2 q3 q4 q5 q6 s0 s1 s2 s3 s4 s5
    go_wp2_with fail
    refine reg_beh (by kernel_rfl) (by kernel_rfl) ?_
    repeat (go_big_quiet_step ((first | (go_at_call 52; exact Beh.calls (CW _)) | (go_at_call 51; exact Beh.calls (CY _)))))
    refine wpQuiet_nil ?_
    rintro w5 ⟨⟨_, b45⟩, rfl⟩
    have hb := bel hb b45
    have hS := hS.below b45
    have hQ := hQ.below b45
    have hwq := hwq.below b45
    clear b45 CW CY g0 g1 f0 f1 f2 f3 f4 f5 k0 hA4 hV4 hP
    obtain ⟨s0, s1, s2, s3, s4, s5⟩ := hS.cells
    obtain ⟨q0, q1, q2, q3, q4, q5, q6⟩ := hQ.cells
    cases h1 : decide (y < 0)
    rotate_left
    · have HX := Lib.hid (show K.leg x.nd x.l x.s x.r v i a t = (0, 4) by
        have hr : K.reach x.nd x.l x.s x.r v a t (K.req x.r i).node = (0, 4) := by unfold K.reach; rw [HY.out, if_pos (by have h1 := of_decide_eq_true h1; omega)]
        unfold K.leg; rw [if_neg HD.out, if_neg HF.out, hr, if_pos (by decide)])
      go_wp2_with fail
      go_ret2
      exact leg_mk' HX.out hb
    have hyp : ¬ y < 0 := of_decide_eq_false h1
    have hwrap : IntKind.i64.wrap (t + y) = t + y := IntWalk.i64_in _ (by omega)
    cases h2 : decide (x.s.end_ < t + y)
    rotate_left
    · have HX := Lib.hid (show K.leg x.nd x.l x.s x.r v i a t = (0, 18) by
        have hr : K.reach x.nd x.l x.s x.r v a t (K.req x.r i).node = (0, 18) := by unfold K.reach; rw [HY.out, if_neg (by omega), if_pos (of_decide_eq_true h2)]
        unfold K.leg; rw [if_neg HD.out, if_neg HF.out, hr, if_pos (by decide)])
      go_wp2_with fail
      go_ret2
      exact leg_mk' HX.out hb
    have h2' : ¬ x.s.end_ < t + y := of_decide_eq_false h2
    have HR := Lib.hid (show K.reach x.nd x.l x.s x.r v a t (K.req x.r i).node = (t + y, 0) by unfold K.reach; rw [HY.out, if_neg (by omega), if_neg h2'])
    have hy2 : 0 ≤ y := by omega
    clear hyp h2'
    go_wp2_with fail
    refine (rfit_any q.A q.n q.c q.l (t + y) q.service _ hwq hqn).mono ?_
    rintro e w7 ⟨rfl, b67⟩
    have hb := bel hb b67
    have hS := hS.below b67
    have hQ := hQ.below b67
    clear q0 q1 q2 q3 q4 q5 q6 s0 s1 s2 s3 s4 s5 h1 h2
    have HFO := Lib.hid (fun h => H.fit_ok (l := q.l) (t := t + y) (s := q.service) h)
    obtain ⟨fb, hfb⟩ : ∃ fb, fb = (H.fit q.l (t + y) q.service).1 := ⟨_, rfl⟩
    obtain ⟨ok, hok⟩ : ∃ ok, ok = (H.fit q.l (t + y) q.service).2 := ⟨_, rfl⟩
    rw [← hfb, ← hok]
    have HFB := Lib.hid hfb
    have HOK := Lib.hid hok
    clear hfb hok
    cases hko : ok
    · have HX := Lib.hid (show K.leg x.nd x.l x.s x.r v i a t = (0, 19) by unfold K.leg; rw [if_neg HD.out, if_neg HF.out, HR.out, if_neg (by simp), HRQ.out, if_pos (by rw [← HOK.out]; exact hko)])
      clear hko
      go_wp2_with fail
      go_ret2
      exact leg_mk' HX.out hb
    have HK1 := Lib.hid (show ¬ ((H.fit q.l (t + y) q.service).2 = false) by rw [← HOK.out, hko]; simp)
    obtain ⟨-, -, -, hf1, hf2⟩ := HFO.out (by rw [← HOK.out]; exact hko)
    rw [← HFB.out] at hf1 hf2
    subst hko
    have hf0 : 0 ≤ fb := by omega
    clear HFO
    obtain ⟨q0, q1, q2, q3, q4, q5, q6⟩ := hQ.cells
    obtain ⟨s0, s1, s2, s3, s4, s5⟩ := hS.cells
    have hwrap : IntKind.i64.wrap (fb + q.service) = fb + q.service := IntWalk.i64_in _ (by omega)
    cases h3 : decide (x.s.end_ < fb + q.service)
    rotate_left
    · have HX := Lib.hid (show K.leg x.nd x.l x.s x.r v i a t = (0, 18) by unfold K.leg; rw [if_neg HD.out, if_neg HF.out, HR.out, if_neg (by simp), HRQ.out, if_neg HK1.out, if_pos (by rw [← HFB.out]; exact of_decide_eq_true h3)])
      go_wp2_with fail
      go_ret2
      exact leg_mk' HX.out hb
    have HX := Lib.hid (show K.leg x.nd x.l x.s x.r v i a t = (fb, 0) by unfold K.leg; rw [if_neg HD.out, if_neg HF.out, HR.out, if_neg (by simp), HRQ.out, if_neg HK1.out, if_neg (by rw [← HFB.out]; exact of_decide_eq_false h3), ← HFB.out])
    go_wp2_with fail
    go_ret2
    exact leg_mk' HX.out hb
end Go.Proofs.Ytjcdpfpdjcannaa
